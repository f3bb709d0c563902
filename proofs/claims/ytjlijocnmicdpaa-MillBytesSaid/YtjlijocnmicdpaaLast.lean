/- The last place at which two lists are unlike. No condition. -/
import Derived.Test.YtjlijocnmicdpaaBack
import Derived.Test.YtjlijocnmicdpaaReg
set_option linter.unusedVariables false
set_option linter.unusedSimpArgs false
namespace Go.Proofs.Ytjlijocnmicdpaa
open Go.RowKit

theorem own1' {w : World} {b : Nat} {c : Array Value} {t : TypeId} (h : Blk w b c t) : Own [(b, c, t)] w := Own.cons h (Own.nil w)
attribute [local go_sem] Oper.semAt_some
/-- The last place at which two lists are unlike. -/
def LastP (xs ys : List Int) (r : Int) : Prop := (r = -1 ∧ xs = ys) ∨ ∃ i : Nat, r = i ∧ i < xs.length ∧ xs[i]? ≠ ys[i]? ∧ ∀ j, i < j → xs[j]? = ys[j]?
def sameTo (xs ys : List Int) (n k : Nat) : Prop := ∀ j, j < n → n ≤ j + k → xs[j]? = ys[j]?
set_option maxHeartbeats 8000000 in
set_option maxRecDepth 20000 in
theorem last_any (A B : Option Addr) (xs ys : List Int) (ca cb : Nat) (w : World) (hA : SlAt w A (u64L xs)) (hB : SlAt w B (u64L ys)) (hl : ys.length = xs.length) (hca : xs.length ≤ ca) (hcb : ys.length ≤ cb) (hn : xs.length ≤ 100000) :
    Calls Try.prog 55 #[.slice A xs.length ca, .slice B ys.length cb] w fun e w' => (∃ r, e = .returned (.int .i64 r) ∧ LastP xs ys r) ∧ Below w.heap.size w w' := by
  have HSEQ := Lib.hid (fun b V hc => back1_seq b A xs ca V (fun k => k < V.heap.size) hc)
  have HAA := Lib.hid (fun (V : World) (hb : Below w.heap.size w V) => hA.below rfl hb)
  have HBB := Lib.hid (fun (V : World) (hb : Below w.heap.size w V) => hB.below rfl hb)
  have HREV := Lib.hid (fun k m (h : m + k + 1 = xs.length) => rev_at (xs := xs) rfl h)
  have HRL := Lib.hid (show xs.reverse.length = xs.length by simp)
  have HEND := Lib.hid (fun (h : sameTo xs ys xs.length xs.length) => show LastP xs ys (-1) from .inl ⟨rfl, List.ext_getElem? fun j => by
    by_cases hj : j < xs.length
    · exact h j hj (by omega)
    · rw [List.getElem?_eq_none (by omega), List.getElem?_eq_none (by omega)]⟩)
  have HLST := Lib.hid (fun (i : Nat) (h : i < xs.length) (h1 : xs[i]? ≠ ys[i]?) (h2 : ∀ j, i < j → j < xs.length → xs[j]? = ys[j]?) => show LastP xs ys (i : Int) from .inr ⟨i, rfl, h, h1, fun j hj => by
    by_cases hjl : j < xs.length
    · exact h2 j hj hjl
    · rw [List.getElem?_eq_none (by omega), List.getElem?_eq_none (by omega)]⟩)
  clear hA hB
  rw [hl] at hcb ⊢
  have hly : ys.length = xs.length := hl
  clear hl
  generalize hln : xs.length = n at *
  refine calls_marks Try.func55 rfl ?_
  simp only [Try.ntmps55, List.size_toArray, List.length_cons, List.length_nil, Nat.reduceAdd, Nat.reduceSub, Array.replicate_succ, Array.replicate_zero, List.push_toArray, List.append_toArray, List.nil_append, List.cons_append]
  go_wp2_with fail
  refine (back_any A n ca _).mono ?_
  rintro e w1 ⟨rfl, rfl⟩
  go_wp2_with fail
  refine wp_name fun V hV => ?_
  have hz : V.heap.size = w.heap.size + 3 := by rw [hV]; simp
  have hB1 : Below w.heap.size w V := by rw [hV]; go_grown
  have hO : Own [(w.heap.size + 2, #[.slice A n ca], 69), (w.heap.size + 1, #[.int .i64 0], 3), (w.heap.size, #[.slice B n cb], 69)] V := by
    rw [hV]; exact Own.new (Own.new (Own.new (Own.nil w) _ rfl) _ (by simp)) _ (by simp)
  clear hV
  have hsq := HSEQ.out (w.heap.size + 2) V ((hO.get 0 rfl).cell 0) (HAA.out V hB1) hca hn (by omega) (fun hne b' off h => by
    rcases HAA.out V hB1 with h0 | ⟨b2, o2, h2, hl2, _⟩
    · exact absurd h0 hne
    · rw [h2] at h; cases h; exact hl2)
  try rw [World.size_alloc, World.size_alloc]
  have hI : AnyFrom V.heap.size (EI (fun (k : Nat) => [(w.heap.size + 1, #[.int .i64 0], 3), (w.heap.size, #[.slice B n cb], 69)]) w.heap.size w [] (fun k => k < V.heap.size) V) := EI.any (by simp only [List.mem_cons, List.not_mem_nil, or_false, forall_eq, forall_eq_or_imp]; omega) (fun D h => (by cases h)) (Nat.le_refl _) hB1.size (fun k hk => hk)
  have hX : AnyFrom V.heap.size (EI (fun (k : Nat) => [(w.heap.size + 1, #[.int .i64 ((n : Int) - (k : Int))], 3)]) w.heap.size w [] (fun _ => False) V) := EI.any (by simp only [List.mem_cons, List.not_mem_nil, or_false, forall_eq, forall_eq_or_imp]; omega) (fun D h => (by cases h)) (Nat.le_refl _) hB1.size (fun k hk => hk.elim)
  have HOV := Lib.hid hO
  refine wp_each (w0 := V) (xs := xs.reverse) (encs := bwEnc n) (S := fun k => k < V.heap.size) rfl (enters_of Try.func63 (by kernel_rfl) rfl) hsq (fun k hk => hk) (Keep.refl _ _) (fun _ _ => rfl)
    (fun k V' => EI (fun (k : Nat) => [(w.heap.size + 1, #[.int .i64 0], 3), (w.heap.size, #[.slice B n cb], 69)]) w.heap.size w [] (fun k => k < V.heap.size) V k V' ∧ sameTo xs ys n k)
    (fun c k V' => c = .ret ∧ EI (fun (k : Nat) => [(w.heap.size + 1, #[.int .i64 ((n : Int) - (k : Int))], 3)]) w.heap.size w [] (fun _ => False) V k V' ∧ (1 ≤ k ∧ k ≤ n ∧ xs[n - k]? ≠ ys[n - k]? ∧ sameTo xs ys n (k - 1))) ?hI ?hIx ?h0 ?round ?done ?stop
  case hI => exact hI.and (any_pure fun k : Nat => sameTo xs ys n k)
  case hIx => exact fun c => (any_pure fun _ : Nat => c = .ret).and (hX.and (any_pure fun k : Nat => 1 ≤ k ∧ k ≤ n ∧ xs[n - k]? ≠ ys[n - k]? ∧ sameTo xs ys n (k - 1)))
  case h0 => exact ⟨⟨(HOV.out).tl, hB1, fun D h => (by cases h), Keep.refl _ _⟩, fun j h1 h2 => by omega⟩
  case round =>
    rintro l' k x V1 hx ⟨hE, hsame⟩ hl'
    have hkn : k < n := by have := (List.getElem?_eq_some_iff.1 hx).1; rwa [HRL.out] at this
    obtain ⟨m, hm⟩ : ∃ m, m + k + 1 = n := ⟨n - 1 - k, by omega⟩
    rw [HREV.out k m hm] at hx
    have hmi : ((n : Int) - 1 - (k : Int)) = (m : Int) := by omega
    simp only [bwEnc, hmi]
    gi_wp2
    refine ⟨Keep.refl _ _, EI (fun (k : Nat) => [(w.heap.size + 1, #[.int .i64 0], 3), (w.heap.size, #[.slice B n cb], 69)]) w.heap.size w [] (fun k => k < V.heap.size) V k, fun _ V' V2 row h hg hr => hI.from k V' V2 row h hg hr, hE, ?body⟩
    case body =>
    clear hE
    rintro V2 ⟨hO2, hb2, _, hk2⟩
    dsimp only at hO2
    obtain ⟨y, hy⟩ : ∃ y, ys[m]? = some y := ⟨ys[m]'(by omega), by simp⟩
    have huy : (u64L ys)[m]? = some (.int .u64 y) := by simp [u64L, hy]
    obtain ⟨b', off, rfl, hbl, hcell⟩ := (HBB.out V2 hb2).cell huy
    have hc0 : V2.cell? ⟨b', off + m, none⟩ = some (.int .u64 y) := hcell m _ huy
    have cb0 := hO2.cell 1 rfl
    have cr := hO2.cell 0 rfl
    have fr := hO2.free 0 rfl
    have lr := hO2.lt 0 rfl
    have hdm : decide ((n : Int) ≤ (m : Int)) = false := by simp; omega
    have hdm2 : decide (n ≤ m) = false := by simp; omega
    have HO2 := Lib.hid hO2
    have HB2 := Lib.hid hb2
    have HK2 := Lib.hid hk2
    clear hO2 hb2 hk2 hcell
    by_cases hxy : x = y
    · have HS2 := Lib.hid (show sameTo xs ys n (k + 1) from fun j h1 h2 => by
        by_cases hj : j = m
        · subst hj; rw [hx, hy, hxy]
        · exact hsame j h1 (by omega))
      subst hxy
      clear hsame
      gi_wp2
      exact ⟨Keep.refl _ _, ⟨HO2.out, HB2.out, fun D h => (by cases h), HK2.out⟩, HS2.out⟩
    · have hne : (x == y) = false := by simpa using hxy
      have hne' : decide (x = y) = false := by simpa using hxy
      have hdf : xs[m]? ≠ ys[m]? := by rw [hx, hy]; simpa using hxy
      have HDF := Lib.hid hdf
      have HSM := Lib.hid hsame
      clear hxy hdf hsame
      gi_wp2
      have hks : Keep (fun b => V.heap.size ≤ b) V2 (V2.setCell ⟨w.heap.size + 1, 0, none⟩ (.int .i64 (m : Int))) := (Keep.refl _ _).setCell _ _ (.inl (by intro h; dsimp only at h; omega))
      have hmk : ((n : Int) - ((k + 1 : Nat) : Int)) = (m : Int) := by omega
      have hnk : n - (k + 1) = m := by omega
      refine ⟨hks, rfl, ⟨?_, HB2.out.setCell (p := ⟨w.heap.size + 1, 0, none⟩) (by simp) _, fun D h => (by cases h), ⟨HK2.out.os, HK2.out.tape, HK2.out.output, by simpa using HK2.out.size, fun k hk => hk.elim⟩⟩, by omega, by omega, ?_, ?_⟩
      · dsimp only
        rw [hmk]
        exact own1' ((HO2.out.get 0 rfl).set 0 _)
      · rw [hnk]; exact HDF.out
      · rw [show k + 1 - 1 = k by omega]; exact HSM.out
  case done =>
    rintro V3 ⟨⟨hO3, hb3, _, _⟩, hsame⟩ hD
    rw [HRL.out] at hsame
    dsimp only at hO3
    have cr := hO3.cell 0 rfl
    have fr := hO3.free 0 rfl
    have lr := hO3.lt 0 rfl
    have HO3 := Lib.hid hO3
    have HB3 := Lib.hid hb3
    have HR := Lib.hid (HEND.out hsame)
    have hzD : V.heap.size ≠ w.heap.size + 1 := by omega
    clear hO3 hb3 hsame
    go_wp2_with fail
    have hD2 : (V3.setCell ⟨w.heap.size + 1, 0, none⟩ (.int .i64 (-1))).heap[V.heap.size]? = some (.deferred (some [])) := (Below.heap_setCell V3 ⟨w.heap.size + 1, 0, none⟩ _ _ hzD).trans hD
    refine ret_mark1 (D := V.heap.size) (v := .int .i64 (-1)) hD2 ?_ ⟨⟨_, rfl, HR.out⟩, Below.put (HB3.out.setCell (p := ⟨w.heap.size + 1, 0, none⟩) (by simp) _) _ hB1.size⟩
    have c6 : ((V3.setCell ⟨w.heap.size + 1, 0, none⟩ (.int .i64 (-1))).putObj V.heap.size (.deferred none)).cell? ⟨w.heap.size + 1, 0, none⟩ = some (.int .i64 (-1)) := (((HO3.out.get 0 rfl).set 0 (.int .i64 (-1))).put (.deferred none) (Ne.symm hzD)).cell 0
    simp [results, Try.results55, go_sem, c6]
  case stop =>
    rintro c k V3 hkn ⟨rfl, ⟨hO3, hb3, _, _⟩, h1, h2, h3, h4⟩ hD
    dsimp only at hO3
    have HR := Lib.hid (HLST.out (n - k) (by omega) h3 (fun j hj hjn => h4 j hjn (by omega)))
    have hnk : ((n - k : Nat) : Int) = (n : Int) - (k : Int) := by omega
    rw [hnk] at HR
    have HO3 := Lib.hid hO3
    have hzD : V.heap.size ≠ w.heap.size + 1 := by omega
    clear hO3 h3 h4
    go_wp2_with fail
    refine ret_mark1 (D := V.heap.size) (v := .int .i64 ((n : Int) - (k : Int))) hD ?_ ⟨⟨_, rfl, HR.out⟩, Below.put hb3 _ hB1.size⟩
    have c6 : (V3.putObj V.heap.size (.deferred none)).cell? ⟨w.heap.size + 1, 0, none⟩ = some (.int .i64 ((n : Int) - (k : Int))) := ((HO3.out.get 0 rfl).put (.deferred none) (Ne.symm hzD)).cell 0
    simp [results, Try.results55, go_sem, c6]
end Go.Proofs.Ytjlijocnmicdpaa
