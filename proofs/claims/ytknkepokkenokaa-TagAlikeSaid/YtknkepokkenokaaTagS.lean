/- Plain: parts, joins, words of lists that are alike are alike. -/
import Derived.Test.YtknkepokkenokaaTagQ
set_option linter.unusedVariables false
set_option linter.unusedSimpArgs false
namespace Go.Proofs.Ytknkepokkenokaa
open Go.RowKit

theorem bv_of {x : Int} (h : U x) : ∃ X : BitVec 64, x = (X.toNat : Int) :=
  ⟨BitVec.ofNat 64 x.toNat, by have h0 := h.1; have h1 := h.2; rw [BitVec.toNat_ofNat]; omega⟩
theorem orI_bv (X Y : BitVec 64) : orI (X.toNat : Int) (Y.toNat : Int) = ((X ||| Y).toNat : Int) := by
  unfold orI
  rw [bits_or_nat X.isLt Y.isLt, BitVec.toNat_or]
theorem below_orI {x y u : Int} (hx : U x) (hy : U y) (hu : U u) (h : belowI (orI x y) u = true) : belowI x u = true ∧ belowI y u = true := by
  obtain ⟨X, rfl⟩ := bv_of hx
  obtain ⟨Y, rfl⟩ := bv_of hy
  obtain ⟨Z, rfl⟩ := bv_of hu
  rw [orI_bv, below_bits, decide_eq_true_eq] at h
  rw [below_bits, below_bits, decide_eq_true_eq, decide_eq_true_eq]
  have hb : ∀ i, i < 64 → ((X ||| Y) &&& ~~~Z).getLsbD i = false := fun i hi => by rw [h]; simp
  constructor
  all_goals
    apply BitVec.eq_of_getLsbD_eq
    intro i hi
    have := hb i hi
    simp only [BitVec.getLsbD_and, BitVec.getLsbD_or, BitVec.getLsbD_not, hi, decide_true, Bool.true_and, BitVec.getLsbD_zero] at this ⊢
    revert this
    cases X.getLsbD i <;> cases Y.getLsbD i <;> cases Z.getLsbD i <;> simp
theorem less_bits (a b : Int) : ∃ A B : BitVec 64, IntKind.u64.wrap a = (A.toNat : Int) ∧ IntKind.u64.wrap (bits .and .i64 a b) = ((A &&& B).toNat : Int) := by
  refine ⟨BitVec.ofInt 64 a, BitVec.ofInt 64 b, ?_, ?_⟩
  · rw [IntKind.wrap_u64, BitVec.toNat_ofInt]; simp only [Nat.reducePow]; omega
  · show IntKind.u64.wrap (IntKind.i64.wrap ((BitVec.ofInt 64 a &&& BitVec.ofInt 64 b).toNat : Int)) = _
    have := (BitVec.ofInt 64 a &&& BitVec.ofInt 64 b).isLt
    rw [IntKind.wrap_u64, IntKind.wrap_i64]
    simp only [Nat.reducePow] at this
    omega
theorem below_less {x a b : Int} (hx : U x) (h : belowI x (IntKind.u64.wrap (bits .and .i64 a b)) = true) : belowI x (IntKind.u64.wrap a) = true := by
  obtain ⟨A, B, e1, e2⟩ := less_bits a b
  obtain ⟨X, rfl⟩ := bv_of hx
  rw [e2, below_bits, decide_eq_true_eq] at h
  rw [e1, below_bits, decide_eq_true_eq]
  have hb : ∀ i, i < 64 → (X &&& ~~~(A &&& B)).getLsbD i = false := fun i hi => by rw [h]; simp
  apply BitVec.eq_of_getLsbD_eq
  intro i hi
  have := hb i hi
  simp only [BitVec.getLsbD_and, BitVec.getLsbD_not, hi, decide_true, Bool.true_and, BitVec.getLsbD_zero] at this ⊢
  revert this
  cases X.getLsbD i <;> cases A.getLsbD i <;> cases B.getLsbD i <;> simp
/-- Alike, told of their places. -/
def AlikeP (up : Int) (xs ys : List (Int × Int)) : Prop := xs.length = ys.length ∧ ∀ (j : Nat) (x y : Int × Int), xs[j]? = some x → ys[j]? = some y → x.2 = y.2 ∧ (belowI x.2 up = true → x.1 = y.1)
theorem alike_of {up : Int} {xs ys : List (Int × Int)} (h : AlikeP up xs ys) : alikeL belowI up xs ys = true :=
  alikeL_true h.1 fun j x y hx hy => by
    obtain ⟨h1, h2⟩ := h.2 j x y hx hy
    unfold alikeC
    rw [h1, decide_eq_true rfl, Bool.true_and]
    rw [h1] at h2
    rcases hb : belowI y.2 up with _ | _
    · simp
    · simp [h2 hb]
theorem of_alike {up : Int} {xs ys : List (Int × Int)} (h : alikeL belowI up xs ys = true) : AlikeP up xs ys := by
  refine ⟨?_, fun j x y hx hy => ?_⟩
  · by_cases hl : xs.length = ys.length
    · exact hl
    · rw [alikeL_len hl] at h; cases h
  · rcases hc : alikeC belowI up x y with _ | _
    · rw [alikeL_false j x y hx hy hc] at h; cases h
    · unfold alikeC at hc
      simp only [Bool.and_eq_true, Bool.or_eq_true, decide_eq_true_eq, Bool.not_eq_true'] at hc
      refine ⟨hc.1, fun hb => ?_⟩
      rcases hc.2 with h1 | h1
      · exact h1
      · rw [hb] at h1; cases h1
theorem partL_at (xs : List (Int × Int)) (p m j : Nat) (hj : j < m) : (partL xs p m)[j]? = some ((xs[p + j]?).getD (0, 0)) := by
  unfold partL
  have hl : ((xs.drop p).take m).length = min m (xs.length - p) := by simp
  by_cases h : p + j < xs.length
  · rw [List.getElem?_append_left (by omega), List.getElem?_take, if_pos hj, List.getElem?_drop, List.getElem?_eq_getElem h]; rfl
  · rw [List.getElem?_append_right (by omega), List.getElem?_replicate, if_pos (by omega), List.getElem?_eq_none (by omega)]; rfl
theorem AlikeP.part {up : Int} {xs ys : List (Int × Int)} (h : AlikeP up xs ys) (p m : Nat) : AlikeP up (partL xs p m) (partL ys p m) := by
  refine ⟨by rw [partL_len, partL_len], fun j x y hx hy => ?_⟩
  have hj : j < m := by have := (List.getElem?_eq_some_iff.1 hx).1; rwa [partL_len] at this
  rw [partL_at _ _ _ _ hj] at hx hy
  cases hx; cases hy
  by_cases hp : p + j < xs.length
  · have hp' : p + j < ys.length := by rw [← h.1]; exact hp
    have := h.2 (p + j) xs[p + j] ys[p + j] (List.getElem?_eq_getElem hp) (List.getElem?_eq_getElem hp')
    rw [List.getElem?_eq_getElem hp, List.getElem?_eq_getElem hp']; exact this
  · have hp' : ¬ p + j < ys.length := by rw [← h.1]; exact hp
    rw [List.getElem?_eq_none (by omega), List.getElem?_eq_none (by omega)]
    exact ⟨rfl, fun _ => rfl⟩
theorem AlikeP.join {up more : Int} {xs ys : List (Int × Int)} (h : AlikeP up xs ys) (hu : U up) (hm : U more) (hx : ∀ c ∈ xs, U c.2) :
    AlikeP up (xs.map fun c => (c.1, orI (orI 0 c.2) more)) (ys.map fun c => (c.1, orI (orI 0 c.2) more)) := by
  refine ⟨by simp [h.1], fun j x y hjx hjy => ?_⟩
  rw [List.getElem?_map] at hjx hjy
  obtain ⟨a, ha, rfl⟩ := Option.map_eq_some_iff.1 hjx
  obtain ⟨b, hb, rfl⟩ := Option.map_eq_some_iff.1 hjy
  obtain ⟨h1, h2⟩ := h.2 j a b ha hb
  have hua := hx a (List.mem_of_getElem? ha)
  refine ⟨by show orI (orI 0 a.2) more = orI (orI 0 b.2) more; rw [h1], fun hbl => h2 ?_⟩
  have hbl : belowI (orI (orI 0 a.2) more) up = true := hbl
  rw [orI_zero hua] at hbl
  exact (below_orI hua hm hu hbl).1
theorem orI_U {x y : Int} : U (orI x y) := by
  unfold orI
  show U (IntKind.u64.wrap _)
  rw [IntKind.wrap_u64]; unfold U; omega
theorem joinL_U : ∀ (l : List Int) (a : Int), U a → U (joinL a l)
  | [], a, h => h
  | x :: l, a, h => joinL_U l (orI a x) orI_U
theorem joinL_below {up : Int} (hu : U up) : ∀ (l : List Int) (a : Int), U a → (∀ x ∈ l, U x) → belowI (joinL a l) up = true → belowI a up = true ∧ ∀ x ∈ l, belowI x up = true
  | [], a, _, _, h => ⟨h, by simp⟩
  | x :: l, a, ha, hl, h => by
    obtain ⟨h1, h2⟩ := joinL_below hu l (orI a x) orI_U (fun y hy => hl y (by simp [hy])) h
    obtain ⟨h3, h4⟩ := below_orI ha (hl x (by simp)) hu h1
    refine ⟨h3, fun y hy => ?_⟩
    rcases List.mem_cons.1 hy with rfl | hy
    · exact h4
    · exact h2 y hy
theorem partL_U {xs : List (Int × Int)} {p m : Nat} (h : ∀ c ∈ xs, U c.2) : ∀ c ∈ partL xs p m, U c.2 := by
  intro x hx
  unfold partL at hx
  rcases List.mem_append.1 hx with h1 | h1
  · exact h x (List.mem_of_mem_drop (List.mem_of_mem_take h1))
  · rw [(List.mem_replicate.1 h1).2]; unfold U; decide
theorem wordL_U (xs : List (Int × Int)) : U (wordL xs) := joinL_U _ 0 (by unfold U; decide)
theorem AlikeP.snd {up : Int} {xs ys : List (Int × Int)} (h : AlikeP up xs ys) : xs.map Prod.snd = ys.map Prod.snd := by
  apply List.ext_getElem? 
  intro j
  rw [List.getElem?_map, List.getElem?_map]
  by_cases hj : j < xs.length
  · have hj' : j < ys.length := by rw [← h.1]; exact hj
    rw [List.getElem?_eq_getElem hj, List.getElem?_eq_getElem hj']
    exact congrArg some (h.2 j _ _ (List.getElem?_eq_getElem hj) (List.getElem?_eq_getElem hj')).1
  · rw [List.getElem?_eq_none (by omega), List.getElem?_eq_none (by have := h.1; omega)]
theorem AlikeP.all {up : Int} {xs ys : List (Int × Int)} (h : AlikeP up xs ys) (hb : ∀ x ∈ xs, belowI x.2 up = true) : xs = ys := by
  apply List.ext_getElem?
  intro j
  by_cases hj : j < xs.length
  · have hj' : j < ys.length := by rw [← h.1]; exact hj
    obtain ⟨h1, h2⟩ := h.2 j _ _ (List.getElem?_eq_getElem hj) (List.getElem?_eq_getElem hj')
    rw [List.getElem?_eq_getElem hj, List.getElem?_eq_getElem hj']
    exact congrArg some (Prod.ext (h2 (hb _ (List.getElem_mem hj))) h1)
  · rw [List.getElem?_eq_none (by omega), List.getElem?_eq_none (by have := h.1; omega)]
/-- Words of lists that are alike: the same label; below it the same word. -/
theorem AlikeP.word {up : Int} {xs ys : List (Int × Int)} (h : AlikeP up xs ys) (hu : U up) (hx : ∀ c ∈ xs, U c.2) : wordL xs = wordL ys ∧ (belowI (wordL xs) up = true → wordX xs = wordX ys) := by
  have hp := h.part 0 32
  refine ⟨by unfold wordL; rw [hp.snd], fun hb => ?_⟩
  have hall := (joinL_below hu _ 0 (by unfold U; decide) (fun x hx2 => by obtain ⟨c, hc, rfl⟩ := List.mem_map.1 hx2; exact partL_U hx c hc) hb).2
  have e := hp.all fun c hc => hall c.2 (List.mem_map.2 ⟨c, hc, rfl⟩)
  unfold wordX
  rw [e]
theorem wordX_lt {xs : List (Int × Int)} (h : ∀ c ∈ xs, 0 ≤ c.1 ∧ c.1 < 256) (q : Nat) : wordX xs q < 2 ^ 64 := by
  unfold wordX
  refine ob_lt (fun j => ?_) q
  unfold fR
  split
  · rw [List.getD_eq_getElem?_getD]
    rcases he : (nats (partL xs 0 32))[(nats (partL xs 0 32)).length - 1 - j]? with _ | a
    · decide
    · show a < 256
      have := List.mem_of_getElem? he
      unfold nats at this
      obtain ⟨c, hc, rfl⟩ := List.mem_map.1 this
      have : 0 ≤ c.1 ∧ c.1 < 256 := by
        unfold partL at hc
        rcases List.mem_append.1 hc with h1 | h1
        · exact h c (List.mem_of_mem_drop (List.mem_of_mem_take h1))
        · rw [(List.mem_replicate.1 h1).2]; decide
      omega
  · decide
theorem alike_wcells {X Y : Nat → Nat} {l up : Int} (h : belowI l up = true → X = Y) : AlikeP up (wcells X l) (wcells Y l) := by
  refine ⟨by rw [wcells_len, wcells_len], fun j x y hx hy => ?_⟩
  have e1 : x.2 = l := by have := List.mem_of_getElem? hx; unfold wcells at this; obtain ⟨b, _, rfl⟩ := List.mem_map.1 this; rfl
  have e2 : y.2 = l := by have := List.mem_of_getElem? hy; unfold wcells at this; obtain ⟨b, _, rfl⟩ := List.mem_map.1 this; rfl
  refine ⟨e1.trans e2.symm, fun hb => ?_⟩
  rw [e1] at hb
  rw [h hb] at hx
  rw [hx] at hy
  cases hy; rfl
theorem same_words {X Y : Nat → Nat} {l up : Int} (h : belowI l up = true → X = Y) : sameV belowI up ⟨X 0, X 1, X 2, X 3, l⟩ ⟨Y 0, Y 1, Y 2, Y 3, l⟩ = true := by
  unfold sameV
  rw [decide_eq_true rfl, Bool.true_and]
  rcases hb : belowI l up with _ | _
  · simp [hb]
  · rw [h hb]; simp [sameW]
end Go.Proofs.Ytknkepokkenokaa
