/- Stacks that are alike stay so. No program of its own. No condition. -/
import Derived.Test.YtcfomhnfhalmaaaStackMd
set_option linter.unusedVariables false
set_option linter.unusedSimpArgs false
set_option maxRecDepth 100000
namespace Go.Proofs.Ytcfomhnfhalmaaa
open Go.RowKit

def Al (A B : List V5) (up : BitVec 64) : Prop := A.length = B.length ∧ ∀ i, i < A.length → sameB (A.getD i z5) (B.getD i z5) up = true
theorem alikeB_of {A B : List V5} {up : BitVec 64} (h : Al A B up) : alikeB A B up = true := by
  unfold alikeB
  rw [Bool.and_eq_true, decide_eq_true_eq, List.all_eq_true]
  exact ⟨h.1, fun i hi => h.2 i (List.mem_range.1 hi)⟩
theorem wordsB_self (x : V5) : wordsB x x = true := by simp [wordsB]
theorem sameB_self (x : V5) (up : BitVec 64) : sameB x x up = true := by simp [sameB, wordsB_self]
theorem Al.refl (A : List V5) (up : BitVec 64) : Al A A up := ⟨rfl, fun _ _ => sameB_self _ _⟩
theorem sameB_lab {x y : V5} {up : BitVec 64} (h : sameB x y up = true) : x.l = y.l := by
  unfold sameB at h
  rw [Bool.and_eq_true, beq_iff_eq] at h
  exact h.1
theorem below_or {l a up : BitVec 64} (h : (BitVec.ofInt 64 0 ||| l ||| a) &&& ~~~up = 0#64) : l &&& ~~~up = 0#64 := by
  apply BitVec.eq_of_getLsbD_eq
  intro i hi
  have := congrArg (fun z : BitVec 64 => z.getLsbD i) h
  simp only [BitVec.getLsbD_and, BitVec.getLsbD_or, BitVec.getLsbD_not, hi, decide_true, Bool.true_and, BitVec.getLsbD_zero] at this ⊢
  revert this
  cases l.getLsbD i <;> cases up.getLsbD i <;> simp
theorem sameB_up {x y : V5} {up : BitVec 64} (a : BitVec 64) (h : sameB x y up = true) : sameB (upLab a x) (upLab a y) up = true := by
  have hl := sameB_lab h
  unfold sameB at h ⊢
  rw [Bool.and_eq_true, Bool.or_eq_true] at h ⊢
  refine ⟨by rw [beq_iff_eq]; unfold upLab; rw [hl], ?_⟩
  rcases h.2 with h2 | h2
  · exact .inl h2
  · refine .inr ?_
    rw [Bool.not_eq_true'] at h2 ⊢
    unfold belowB at h2 ⊢
    rw [decide_eq_false_iff_not] at h2 ⊢
    exact fun h3 => h2 (below_or h3)
theorem Al.get {A B : List V5} {up : BitVec 64} (h : Al A B up) (i : Nat) : sameB (A.getD i z5) (B.getD i z5) up = true := by
  rcases Nat.lt_or_ge i A.length with hi | hi
  · exact h.2 i hi
  · have h1 : A.getD i z5 = z5 := by simp [List.getD_eq_getElem?_getD, List.getElem?_eq_none hi]
    have h2 : B.getD i z5 = z5 := by simp [List.getD_eq_getElem?_getD, List.getElem?_eq_none (show B.length ≤ i by rw [← h.1]; exact hi)]
    rw [h1, h2]; exact sameB_self _ _
theorem al_mapN {n m : Nat} {g h : Nat → V5} {up : BitVec 64} (hn : n = m) (H : ∀ i, i < n → sameB (g i) (h i) up = true) : Al (mapN n g) (mapN m h) up := by
  subst hn
  refine ⟨by rw [mapN_len, mapN_len], fun i hi => ?_⟩
  rw [mapN_len] at hi
  rw [mapN_get hi, mapN_get hi]; exact H i hi
theorem al_join {A B : List V5} {up : BitVec 64} (h : Al A B up) (at' : Nat) : ∀ k, joinTo A at' k = joinTo B at' k
  | 0 => rfl
  | k + 1 => by unfold joinTo; rw [al_join h at' k, sameB_lab (h.get (at' + k))]
theorem al_push {A B : List V5} {up : BitVec 64} {x y : V5} (h : Al A B up) (hx : sameB x y up = true) : Al (pushL A x) (pushL B y) up :=
  al_mapN (by rw [h.1]) fun i _ => by
    rw [h.1]
    split
    · exact h.get i
    · exact hx
theorem al_act {A B : List V5} {up : BitVec 64} (h : Al A B up) (W N : Int) (x : V5) : Al (actL W N x A) (actL W N x B) up := by
  have hl := h.1
  unfold actL
  rw [← hl, al_join h]
  split
  · exact al_push h (sameB_self _ _)
  split
  · split
    · exact al_mapN rfl fun i _ => h.get i
    · exact h
  split
  · split
    · exact al_push h (h.get _)
    · exact h
  split
  · split
    · exact al_mapN hl fun i _ => by
        rw [← hl]
        split
        · exact h.get _
        · split
          · exact h.get _
          · exact h.get _
    · exact h
  split
  · split
    · exact al_mapN hl fun i _ => by
        split
        · exact sameB_up _ (h.get _)
        · exact h.get _
    · exact h
  · exact h
theorem act_len (W N : Int) (x : V5) (L : List V5) : (actL W N x L).length ≤ L.length + 1 := by
  unfold actL
  split
  · rw [push_len]; exact Nat.le_refl _
  split
  · split
    · rw [take_len]; omega
    · omega
  split
  · split
    · rw [push_len]; exact Nat.le_refl _
    · omega
  split
  · split
    · rw [swap_len]; omega
    · omega
  split
  · split
    · rw [raise_len]; omega
    · omega
  · omega
def stepA (y : A7) (L : List V5) : List V5 := if 0 ≤ y.w ∧ y.w ≤ 6 then actL y.w y.n y.v L else L
def runA (Y : List A7) (L : List V5) : Nat → List V5
  | 0 => L
  | k + 1 => stepA (Y.getD k zA) (runA Y L k)
theorem al_run {A B : List V5} {up : BitVec 64} (Y : List A7) (h : Al A B up) : ∀ k, Al (runA Y A k) (runA Y B k) up
  | 0 => h
  | k + 1 => by
    unfold runA stepA
    split
    · exact al_act (al_run Y h k) _ _ _
    · exact al_run Y h k
theorem run_len (Y : List A7) (L : List V5) : ∀ k, (runA Y L k).length ≤ L.length + k
  | 0 => Nat.le_refl _
  | k + 1 => by
    have := run_len Y L k
    unfold runA stepA
    split
    · have := act_len (Y.getD k zA).w (Y.getD k zA).n (Y.getD k zA).v (runA Y L k); omega
    · omega
/-- The others' words where labels hide them. -/
def nearL (X : List V5) (O : List V4) (k : Nat) : List V5 := mapN X.length fun i => if i < k ∧ ((X.getD i z5).l &&& ~~~BitVec.ofInt 64 5) ≠ 0#64 then let y := O.getD i ⟨0, 0, 0, 0⟩; ⟨y.a, y.b, y.c, y.d, (X.getD i z5).l⟩ else X.getD i z5
theorem near_len (X : List V5) (O : List V4) (k : Nat) : (nearL X O k).length = X.length := mapN_len _ _
theorem near_zero (X : List V5) (O : List V4) : nearL X O 0 = X := by
  refine ext5 (mapN_len _ _) fun i hi => ?_
  unfold nearL at hi ⊢
  rw [mapN_len] at hi
  rw [mapN_get hi, if_neg (fun h => absurd h.1 (by omega))]
theorem al_near (X : List V5) (O : List V4) (k : Nat) : Al X (nearL X O k) (BitVec.ofInt 64 5) := by
  refine ⟨(near_len X O k).symm, fun i hi => ?_⟩
  unfold nearL
  rw [mapN_get hi]
  split
  · rename_i h
    unfold sameB
    rw [Bool.and_eq_true, Bool.or_eq_true]
    refine ⟨by rw [beq_iff_eq], .inr ?_⟩
    rw [Bool.not_eq_true']
    unfold belowB
    rw [decide_eq_false_iff_not]
    exact h.2
  · exact sameB_self _ _
theorem near_get {X : List V5} {O : List V4} {k i : Nat} (hi : i < X.length) : F5 (nearL X O k) i = v5 (if i < k ∧ ((X.getD i z5).l &&& ~~~BitVec.ofInt 64 5) ≠ 0#64 then ⟨(O.getD i ⟨0, 0, 0, 0⟩).a, (O.getD i ⟨0, 0, 0, 0⟩).b, (O.getD i ⟨0, 0, 0, 0⟩).c, (O.getD i ⟨0, 0, 0, 0⟩).d, (X.getD i z5).l⟩ else X.getD i z5) := F5_mapN hi
theorem near_lab {X : List V5} {O : List V4} {k i : Nat} (hi : i < X.length) : ((nearL X O k).getD i z5).l = (X.getD i z5).l := by
  unfold nearL
  rw [mapN_get hi]
  split <;> rfl
theorem near_same {X : List V5} {O : List V4} {k : Nat} (hc : ((X.getD k z5).l &&& ~~~BitVec.ofInt 64 5) = 0#64) {i : Nat} (hi : i < X.length) : F5 (nearL X O k) i = F5 (nearL X O (k + 1)) i := by
  rw [near_get hi, near_get hi]
  by_cases h : i = k
  · subst h
    rw [if_neg (fun h => h.2 hc), if_neg (fun h => h.2 hc)]
  · by_cases h2 : i < k ∧ ((X.getD i z5).l &&& ~~~BitVec.ofInt 64 5) ≠ 0#64
    · rw [if_pos h2, if_pos ⟨by omega, h2.2⟩]
    · rw [if_neg h2, if_neg (fun h3 => h2 ⟨by omega, h3.2⟩)]
theorem near_next {X : List V5} {O : List V4} {k : Nat} (hc : ((X.getD k z5).l &&& ~~~BitVec.ofInt 64 5) ≠ 0#64) {i : Nat} (hi : i < X.length) : putR 5 (F5 (nearL X O k)) k 0 (List.take 4 (F4 O k)) i = F5 (nearL X O (k + 1)) i := by
  rw [putR_up (s := 5) (o := 0) (vs := List.take 4 (F4 O k)) (show 0 + 4 ≤ 5 by omega) (F5_len _ _), near_get hi, near_get hi]
  by_cases h : i = k
  · subst h
    rw [if_pos rfl, if_neg (fun h => absurd h.1 (by omega)), if_pos ⟨by omega, hc⟩]
    rfl
  · rw [if_neg h]
    by_cases h2 : i < k ∧ ((X.getD i z5).l &&& ~~~BitVec.ofInt 64 5) ≠ 0#64
    · rw [if_pos h2, if_pos ⟨by omega, h2.2⟩]
    · rw [if_neg h2, if_neg (fun h3 => h2 ⟨by omega, h3.2⟩)]
theorem swap_swap {A : List V5} (h : 2 ≤ A.length) : swapL (swapL A 1) 1 = A := by
  refine ext5 (by rw [swap_len, swap_len]) fun i hi => ?_
  rw [swap_len, swap_len] at hi
  have g : ∀ L : List V5, ∀ j, j < L.length → (swapL L 1).getD j z5 = if j = L.length - 1 - 1 then L.getD (L.length - 1) z5 else if j = L.length - 1 then L.getD (L.length - 1 - 1) z5 else L.getD j z5 := fun L j hj => mapN_get hj
  rw [g _ i (by rw [swap_len]; exact hi), swap_len, g _ i hi, g _ _ (by omega), g _ _ (by omega)]
  by_cases h1 : i = A.length - 1 - 1
  · rw [if_pos h1, if_neg (by omega), if_pos rfl, h1]
  · rw [if_neg h1]
    by_cases h2 : i = A.length - 1
    · rw [if_pos h2, if_pos rfl, h2]
    · rw [if_neg h2, if_neg h1, if_neg h2]
theorem take_push {A : List V5} {x : V5} {i : Nat} (hi : i < A.length) : F5 (pushL A x) i = F5 A i := by
  rw [show F5 (pushL A x) i = v5 (if i < A.length then A.getD i z5 else x) from F5_mapN (by omega), if_pos hi]; rfl
theorem last_push {A : List V5} {x : V5} : F5 (pushL A x) A.length = v5 x := by
  rw [show F5 (pushL A x) A.length = v5 (if A.length < A.length then A.getD A.length z5 else x) from F5_mapN (by omega), if_neg (by omega)]
end Go.Proofs.Ytcfomhnfhalmaaa
