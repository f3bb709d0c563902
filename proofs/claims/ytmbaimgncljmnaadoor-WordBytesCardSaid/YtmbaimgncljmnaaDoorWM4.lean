/- Merged texts: COrd CBack CLast COrdB CWoSub WlA PaP WlB WlC WlD WlE0 WlE EyY EyZ Parts WlF0 WlF1 WlF WlLd. No condition. -/
import Derived.Test.YtmbaimgncljmnaaDoorWM2
import Derived.Test.YtmbaimgncljmnaaDoorWM1
import Derived.Shelf.Abstract
import Derived.RegionIn
import Derived.OwnWalkIn
import Derived.TacticsInMore
import Derived.LoopNIn
import Derived.LoopIn
import Derived.Test.YtmbaimgncljmnaaDoorReg
import Derived.Shelf.Spec.BitsCarry
import Derived.Test.YtmbaimgncljmnaaDoorEyO
import Derived.Test.YtmbaimgncljmnaaDoorWM3
import Derived.Test.YtmbaimgncljmnaaDoorEyQ
import Derived.StillTail
import Derived.Test.YtmbaimgncljmnaaDoorRows
import Derived.Test.YtmbaimgncljmnaaDoorLaw
import Derived.Test.YtmbaimgncljmnaaDoorOpen
import Derived.ProofKit
import Derived.LaidMore
import Derived.OpenShut
import Derived.Stop.Joined
import Derived.ChangeMaps5
import Derived.Lay
set_option linter.unusedVariables false
set_option linter.unusedSimpArgs false
set_option maxRecDepth 100000
namespace Go.Proofs.YtmbaimgncljmnaaDoor
open Go.RowKit

section
def ordW (x y : BitVec 256) : Int := if x.toNat < y.toNat then -1 else if y.toNat < x.toNat then 1 else 0
theorem wc_at (x : BitVec 256) {q : Nat} (h : q < 4) : (wc x)[q]? = some (.int .u64 (L x q)) := by
  rcases (by omega : q = 0 ∨ q = 1 ∨ q = 2 ∨ q = 3) with rfl | rfl | rfl | rfl <;> rfl
theorem ord_lt {x y : BitVec 256} {q : Nat} (hq : q < 4) (hs : ∀ j, q < j → j < 4 → L x j = L y j) (h : L x q < L y q) : x.toNat < y.toNat := by
  have hx := L_sum x
  have hy := L_sum y
  have x0 := L_lo x 0; have x1 := L_lo x 1; have x2 := L_lo x 2; have x3 := L_lo x 3
  have y0 := L_lo y 0; have y1 := L_lo y 1; have y2 := L_lo y 2; have y3 := L_lo y 3
  have x0' := L_hi x 0; have x1' := L_hi x 1; have x2' := L_hi x 2; have x3' := L_hi x 3
  have y0' := L_hi y 0; have y1' := L_hi y 1; have y2' := L_hi y 2; have y3' := L_hi y 3
  rcases (by omega : q = 0 ∨ q = 1 ∨ q = 2 ∨ q = 3) with rfl | rfl | rfl | rfl
  · have h1 := hs 1 (by omega) (by omega); have h2 := hs 2 (by omega) (by omega); have h3 := hs 3 (by omega) (by omega); omega
  · have h2 := hs 2 (by omega) (by omega); have h3 := hs 3 (by omega) (by omega); omega
  · have h3 := hs 3 (by omega) (by omega); omega
  · omega
theorem ordW_lt {x y : BitVec 256} {q : Nat} (hq : q < 4) (hs : ∀ j, q < j → j < 4 → L x j = L y j) (h : L x q < L y q) : ordW x y = -1 := by
  unfold ordW; rw [if_pos (ord_lt hq hs h)]
theorem ordW_gt {x y : BitVec 256} {q : Nat} (hq : q < 4) (hs : ∀ j, q < j → j < 4 → L x j = L y j) (h : L y q < L x q) : ordW x y = 1 := by
  have := ord_lt hq (fun j h1 h2 => (hs j h1 h2).symm) h
  unfold ordW; rw [if_neg (by omega), if_pos this]
theorem ordW_eq {x y : BitVec 256} (hs : ∀ j, j < 4 → L x j = L y j) : ordW x y = 0 := by
  have : x = y := L_ext (hs 0 (by omega)) (hs 1 (by omega)) (hs 2 (by omega)) (hs 3 (by omega))
  subst this
  unfold ordW; rw [if_neg (by omega), if_neg (by omega)]
def OrdRel (x y : BitVec 256) (w : World) (i : Value) (wr : World) : Prop :=
  ∃ k : Nat, k ≤ 4 ∧ i = .int .i64 (3 - (k : Int)) ∧ (∀ j, 4 ≤ j + k → j < 4 → L x j = L y j) ∧ Own [(w.heap.size + 1, wc y, 26), (w.heap.size, wc x, 26)] wr ∧ Below w.heap.size w wr
end

section
attribute [local go_sem] Oper.semAt_some
abbrev u64L (xs : List Int) : List Value := xs.map (Value.int .u64)
abbrev bwEnc (n : Nat) : Nat → Int → Array Value := fun k x => #[.int .i64 ((n : Int) - 1 - (k : Int)), .int .u64 x]
def BwRel (J : Nat → World → Prop) (n : Nat) (S : Nat → Prop) (w0 : World) (i : Value) (wr : World) : Prop := ∃ k : Nat, k ≤ n ∧ i = .int .i64 ((n : Int) - 1 - (k : Int)) ∧ J k wr ∧ Keep S w0 wr
theorem rev_at {α : Type} {xs : List α} {n k m : Nat} (hl : xs.length = n) (h : m + k + 1 = n) : xs.reverse[k]? = xs[m]? := by
  rw [List.getElem?_reverse (by omega), hl, show n - 1 - k = m by omega]
set_option maxHeartbeats 4000000 in
set_option maxRecDepth 20000 in
theorem back1_seq (b : Nat) (A : Option Addr) (xs : List Int) (cap : Nat) (w0 : World) (S : Nat → Prop) (hc : w0.cell? ⟨b, 0, none⟩ = some (.slice A xs.length cap)) (hS : SlAt w0 A (u64L xs)) (hcap : xs.length ≤ cap) (hn : xs.length ≤ 100000) (hb : S b) (hA : u64L xs ≠ [] → ∀ b' off, A = some ⟨b', off, none⟩ → S b') :
    Seq Tryd.prog 56 #[.pointer (some ⟨b, 0, none⟩)] (bwEnc xs.length) xs.reverse S w0 := by
  intro l J Jx W hW hJ hJx hY h0
  have hcW : W.cell? ⟨b, 0, none⟩ = some (.slice A xs.length cap) := hW.cell hc hb
  have HC := Lib.hid hc
  have HS := Lib.hid hS
  have HY := Lib.hid hY
  have HJ := Lib.hid hJ
  have HX := Lib.hid hJx
  have HREV := Lib.hid (fun k m (h : m + k + 1 = xs.length) => rev_at (xs := xs) rfl h)
  have HRL := Lib.hid (show xs.reverse.length = xs.length by simp)
  clear hY hJ hJx hS hc
  generalize hln : xs.length = n at *
  refine (callsIn_wide (n := 0)).1 (callsIn_of_wp Tryd.func56 rfl trivial ?_ rfl)
  simp only [Tryd.ntmps56, List.size_toArray, List.length_cons, List.length_nil, Nat.reduceAdd, Nat.reduceSub, Array.replicate_succ, Array.replicate_zero, List.push_toArray, List.append_toArray, List.nil_append, List.cons_append]
  gi_wp2
  gi_loopw [3] (fun i wr => BwRel J n S w0 i wr) (fun i _ => (intOf i + 1).toNat)
  case atStart => exact ⟨0, Nat.zero_le _, by simp, h0, hW⟩
  case round =>
    obtain ⟨k, hk, rfl, hj, hkp⟩ := hrel
    clear hcW
    have hcr := hkp.cell HC.out hb
    by_cases hlt' : k < n
    · obtain ⟨m, hm⟩ : ∃ m, m + k + 1 = n := ⟨n - 1 - k, by omega⟩
      have hmi : ((n : Int) - 1 - (k : Int)) = (m : Int) := by omega
      obtain ⟨x, hx⟩ : ∃ x, xs[m]? = some x := ⟨xs[m]'(by omega), by simp⟩
      have hxr : xs.reverse[k]? = some x := (HREV.out k m hm).trans hx
      have hux : (u64L xs)[m]? = some (.int .u64 x) := by simp [u64L, hx]
      obtain ⟨b', off, rfl, hbl, hcell⟩ := HS.out.cell hux
      have hAb : S b' := hA (by intro h; rw [h] at hux; simp at hux) _ _ rfl
      have hc0 : wr.cell? ⟨b', off + m, none⟩ = some (.int .u64 x) := hkp.cell (hcell m _ hux) hAb
      obtain ⟨fn, tmps, assign, body, hy, hR⟩ := HY.out k x _ hxr hj
      try simp only [bwEnc] at hy
      have hd1 : decide ((0 : Int) ≤ (m : Int)) = true := by simp
      rw [hmi] at hy ⊢
      have hdm : decide ((n : Int) ≤ (m : Int)) = false := by simp; omega
      clear hcell hj
      gi_wp2
      refine ⟨rfl, ?_⟩
      refine hR.mono ?_
      rintro e W' (⟨rfl, hJ', hk'⟩ | ⟨rfl, hJx', _⟩)
      · have hb3 := hkp.trans (hk'.mono (fun _ h => .inl h))
        clear hk' hc0 hy hR hkp hcr
        gi_wp2
        exact ⟨⟨k + 1, by omega, congrArg (Value.int .i64) (by omega), hJ', hb3⟩, by simp only [intOf]; omega⟩
      · clear hc0 hy hR hkp hcr
        gi_wp2
        refine bodyPost_ret (results_none rfl _ _ _) rfl ?_
        exact ⟨⟨_, rfl⟩, .inr ⟨k + 1, by rw [HRL.out]; omega, hJx'⟩⟩
    · obtain rfl : k = n := by omega
      have hd1 : decide ((0 : Int) ≤ (k : Int) - 1 - (k : Int)) = false := by simp; omega
      gi_wp2
      go_end0
      exact ⟨⟨_, rfl⟩, .inl (by rw [HRL.out]; exact hj)⟩
theorem back_any (A : Option Addr) (n cap : Nat) (w : World) : Calls Tryd.prog 49 #[.slice A n cap] w fun e w' => e = .returned (.func (.func 56) #[] #[.pointer (some ⟨w.heap.size, 0, none⟩)]) ∧ w' = w.alloc (.cells #[.slice A n cap] 78) := by
  go_enter Tryd.func49, Tryd.ntmps49
  go_wp2_with fail
  go_ret
  exact ⟨rfl, rfl⟩
end

section
theorem own1' {w : World} {b : Nat} {c : Array Value} {t : TypeId} (h : Blk w b c t) : Own [(b, c, t)] w := Own.cons h (Own.nil w)
attribute [local go_sem] Oper.semAt_some
/-- The last place at which two lists are unlike. -/
def LastP (xs ys : List Int) (r : Int) : Prop := (r = -1 ∧ xs = ys) ∨ ∃ i : Nat, r = i ∧ i < xs.length ∧ xs[i]? ≠ ys[i]? ∧ ∀ j, i < j → xs[j]? = ys[j]?
def sameTo (xs ys : List Int) (n k : Nat) : Prop := ∀ j, j < n → n ≤ j + k → xs[j]? = ys[j]?
set_option maxHeartbeats 8000000 in
set_option maxRecDepth 20000 in
theorem last_any (A B : Option Addr) (xs ys : List Int) (ca cb : Nat) (w : World) (hA : SlAt w A (u64L xs)) (hB : SlAt w B (u64L ys)) (hl : ys.length = xs.length) (hca : xs.length ≤ ca) (hcb : ys.length ≤ cb) (hn : xs.length ≤ 100000) :
    Calls Tryd.prog 40 #[.slice A xs.length ca, .slice B ys.length cb] w fun e w' => (∃ r, e = .returned (.int .i64 r) ∧ LastP xs ys r) ∧ Below w.heap.size w w' := by
  have HSEQ := Lib.hid (fun b V hc => back1_seq b A xs ca V (fun k => k < V.heap.size) hc)
  have HAA := Lib.hid (fun (V : World) (hb : Below w.heap.size w V) => hA.below rfl hb)
  have HBB := Lib.hid (fun (V : World) (hb : Below w.heap.size w V) => hB.below rfl hb)
  have HREV := Lib.hid (fun k m (h : m + k + 1 = xs.length) => rev_at (xs := xs) rfl h)
  have HRL := Lib.hid (show xs.reverse.length = xs.length by simp)
  have HEND := Lib.hid (fun (h : sameTo xs ys xs.length xs.length) => show LastP xs ys (-1) from .inl ⟨rfl, List.ext_getElem? fun j => by
    by_cases hj : j < xs.length
    · exact h j hj (by omega)
    · rw [List.getElem?_eq_none (by omega), List.getElem?_eq_none (by omega)]⟩)
  have HLST := Lib.hid (fun (i : Nat) (h : i < xs.length) (h1 : xs[i]? ≠ ys[i]?) (h2 : ∀ j, i < j → j < xs.length → xs[j]? = ys[j]?) => show LastP xs ys (i : Int) from .inr ⟨i, rfl, h, h1, fun j hj => by
    by_cases hjl : j < xs.length
    · exact h2 j hj hjl
    · rw [List.getElem?_eq_none (by omega), List.getElem?_eq_none (by omega)]⟩)
  clear hA hB
  rw [hl] at hcb ⊢
  have hly : ys.length = xs.length := hl
  clear hl
  generalize hln : xs.length = n at *
  refine calls_marks Tryd.func40 rfl ?_
  simp only [Tryd.ntmps40, List.size_toArray, List.length_cons, List.length_nil, Nat.reduceAdd, Nat.reduceSub, Array.replicate_succ, Array.replicate_zero, List.push_toArray, List.append_toArray, List.nil_append, List.cons_append]
  go_wp2_with fail
  refine (back_any A n ca _).mono ?_
  rintro e w1 ⟨rfl, rfl⟩
  go_wp2_with fail
  refine wp_name fun V hV => ?_
  have hz : V.heap.size = w.heap.size + 3 := by rw [hV]; simp
  have hB1 : Below w.heap.size w V := by rw [hV]; go_grown
  have hO : Own [(w.heap.size + 2, #[.slice A n ca], 78), (w.heap.size + 1, #[.int .i64 0], 3), (w.heap.size, #[.slice B n cb], 78)] V := by
    rw [hV]; exact Own.new (Own.new (Own.new (Own.nil w) _ rfl) _ (by simp)) _ (by simp)
  clear hV
  have hsq := HSEQ.out (w.heap.size + 2) V ((hO.get 0 rfl).cell 0) (HAA.out V hB1) hca hn (by omega) (fun hne b' off h => by
    rcases HAA.out V hB1 with h0 | ⟨b2, o2, h2, hl2, _⟩
    · exact absurd h0 hne
    · rw [h2] at h; cases h; exact hl2)
  try rw [World.size_alloc, World.size_alloc]
  have hI : AnyFrom V.heap.size (EI (fun (k : Nat) => [(w.heap.size + 1, #[.int .i64 0], 3), (w.heap.size, #[.slice B n cb], 78)]) w.heap.size w [] (fun k => k < V.heap.size) V) := EI.any (by simp only [List.mem_cons, List.not_mem_nil, or_false, forall_eq, forall_eq_or_imp]; omega) (fun D h => (by cases h)) (Nat.le_refl _) hB1.size (fun k hk => hk)
  have hX : AnyFrom V.heap.size (EI (fun (k : Nat) => [(w.heap.size + 1, #[.int .i64 ((n : Int) - (k : Int))], 3)]) w.heap.size w [] (fun _ => False) V) := EI.any (by simp only [List.mem_cons, List.not_mem_nil, or_false, forall_eq, forall_eq_or_imp]; omega) (fun D h => (by cases h)) (Nat.le_refl _) hB1.size (fun k hk => hk.elim)
  have HOV := Lib.hid hO
  refine wp_each (w0 := V) (xs := xs.reverse) (encs := bwEnc n) (S := fun k => k < V.heap.size) rfl (enters_of Tryd.func56 (by kernel_rfl) rfl) hsq (fun k hk => hk) (Keep.refl _ _) (fun _ _ => rfl)
    (fun k V' => EI (fun (k : Nat) => [(w.heap.size + 1, #[.int .i64 0], 3), (w.heap.size, #[.slice B n cb], 78)]) w.heap.size w [] (fun k => k < V.heap.size) V k V' ∧ sameTo xs ys n k)
    (fun c k V' => c = .ret ∧ EI (fun (k : Nat) => [(w.heap.size + 1, #[.int .i64 ((n : Int) - (k : Int))], 3)]) w.heap.size w [] (fun _ => False) V k V' ∧ (1 ≤ k ∧ k ≤ n ∧ xs[n - k]? ≠ ys[n - k]? ∧ sameTo xs ys n (k - 1))) ?hI ?hIx ?h0 ?round ?done ?stop
  case hI => exact hI.and (any_pure fun k : Nat => sameTo xs ys n k)
  case hIx => exact fun c => (any_pure fun _ : Nat => c = .ret).and (hX.and (any_pure fun k : Nat => 1 ≤ k ∧ k ≤ n ∧ xs[n - k]? ≠ ys[n - k]? ∧ sameTo xs ys n (k - 1)))
  case h0 => exact ⟨⟨(HOV.out).tl, hB1, fun D h => (by cases h), Keep.refl _ _⟩, fun j h1 h2 => by omega⟩
  case round =>
    rintro l' k x V1 hx ⟨hE, hsame⟩ hl'
    have hkn : k < n := by have := (List.getElem?_eq_some_iff.1 hx).1; rwa [HRL.out] at this
    obtain ⟨m, hm⟩ : ∃ m, m + k + 1 = n := ⟨n - 1 - k, by omega⟩
    rw [HREV.out k m hm] at hx
    have hmi : ((n : Int) - 1 - (k : Int)) = (m : Int) := by omega
    simp only [bwEnc, hmi]
    gi_wp2
    refine ⟨Keep.refl _ _, EI (fun (k : Nat) => [(w.heap.size + 1, #[.int .i64 0], 3), (w.heap.size, #[.slice B n cb], 78)]) w.heap.size w [] (fun k => k < V.heap.size) V k, fun _ V' V2 row h hg hr => hI.from k V' V2 row h hg hr, hE, ?body⟩
    case body =>
    clear hE
    rintro V2 ⟨hO2, hb2, _, hk2⟩
    dsimp only at hO2
    obtain ⟨y, hy⟩ : ∃ y, ys[m]? = some y := ⟨ys[m]'(by omega), by simp⟩
    have huy : (u64L ys)[m]? = some (.int .u64 y) := by simp [u64L, hy]
    obtain ⟨b', off, rfl, hbl, hcell⟩ := (HBB.out V2 hb2).cell huy
    have hc0 : V2.cell? ⟨b', off + m, none⟩ = some (.int .u64 y) := hcell m _ huy
    have cb0 := hO2.cell 1 rfl
    have cr := hO2.cell 0 rfl
    have fr := hO2.free 0 rfl
    have lr := hO2.lt 0 rfl
    have hdm : decide ((n : Int) ≤ (m : Int)) = false := by simp; omega
    have hdm2 : decide (n ≤ m) = false := by simp; omega
    have HO2 := Lib.hid hO2
    have HB2 := Lib.hid hb2
    have HK2 := Lib.hid hk2
    clear hO2 hb2 hk2 hcell
    by_cases hxy : x = y
    · have HS2 := Lib.hid (show sameTo xs ys n (k + 1) from fun j h1 h2 => by
        by_cases hj : j = m
        · subst hj; rw [hx, hy, hxy]
        · exact hsame j h1 (by omega))
      subst hxy
      clear hsame
      gi_wp2
      exact ⟨Keep.refl _ _, ⟨HO2.out, HB2.out, fun D h => (by cases h), HK2.out⟩, HS2.out⟩
    · have hne : (x == y) = false := by simpa using hxy
      have hne' : decide (x = y) = false := by simpa using hxy
      have hdf : xs[m]? ≠ ys[m]? := by rw [hx, hy]; simpa using hxy
      have HDF := Lib.hid hdf
      have HSM := Lib.hid hsame
      clear hxy hdf hsame
      gi_wp2
      have hks : Keep (fun b => V.heap.size ≤ b) V2 (V2.setCell ⟨w.heap.size + 1, 0, none⟩ (.int .i64 (m : Int))) := (Keep.refl _ _).setCell _ _ (.inl (by intro h; dsimp only at h; omega))
      have hmk : ((n : Int) - ((k + 1 : Nat) : Int)) = (m : Int) := by omega
      have hnk : n - (k + 1) = m := by omega
      refine ⟨hks, rfl, ⟨?_, HB2.out.setCell (p := ⟨w.heap.size + 1, 0, none⟩) (by simp) _, fun D h => (by cases h), ⟨HK2.out.os, HK2.out.tape, HK2.out.output, by simpa using HK2.out.size, fun k hk => hk.elim⟩⟩, by omega, by omega, ?_, ?_⟩
      · dsimp only
        rw [hmk]
        exact own1' ((HO2.out.get 0 rfl).set 0 _)
      · rw [hnk]; exact HDF.out
      · rw [show k + 1 - 1 = k by omega]; exact HSM.out
  case done =>
    rintro V3 ⟨⟨hO3, hb3, _, _⟩, hsame⟩ hD
    rw [HRL.out] at hsame
    dsimp only at hO3
    have cr := hO3.cell 0 rfl
    have fr := hO3.free 0 rfl
    have lr := hO3.lt 0 rfl
    have HO3 := Lib.hid hO3
    have HB3 := Lib.hid hb3
    have HR := Lib.hid (HEND.out hsame)
    have hzD : V.heap.size ≠ w.heap.size + 1 := by omega
    clear hO3 hb3 hsame
    go_wp2_with fail
    have hD2 : (V3.setCell ⟨w.heap.size + 1, 0, none⟩ (.int .i64 (-1))).heap[V.heap.size]? = some (.deferred (some [])) := (Below.heap_setCell V3 ⟨w.heap.size + 1, 0, none⟩ _ _ hzD).trans hD
    refine ret_mark1 (D := V.heap.size) (v := .int .i64 (-1)) hD2 ?_ ⟨⟨_, rfl, HR.out⟩, Below.put (HB3.out.setCell (p := ⟨w.heap.size + 1, 0, none⟩) (by simp) _) _ hB1.size⟩
    have c6 : ((V3.setCell ⟨w.heap.size + 1, 0, none⟩ (.int .i64 (-1))).putObj V.heap.size (.deferred none)).cell? ⟨w.heap.size + 1, 0, none⟩ = some (.int .i64 (-1)) := (((HO3.out.get 0 rfl).set 0 (.int .i64 (-1))).put (.deferred none) (Ne.symm hzD)).cell 0
    simp [results, Tryd.results40, go_sem, c6]
  case stop =>
    rintro c k V3 hkn ⟨rfl, ⟨hO3, hb3, _, _⟩, h1, h2, h3, h4⟩ hD
    dsimp only at hO3
    have HR := Lib.hid (HLST.out (n - k) (by omega) h3 (fun j hj hjn => h4 j hjn (by omega)))
    have hnk : ((n - k : Nat) : Int) = (n : Int) - (k : Int) := by omega
    rw [hnk] at HR
    have HO3 := Lib.hid hO3
    have hzD : V.heap.size ≠ w.heap.size + 1 := by omega
    clear hO3 h3 h4
    go_wp2_with fail
    refine ret_mark1 (D := V.heap.size) (v := .int .i64 ((n : Int) - (k : Int))) hD ?_ ⟨⟨_, rfl, HR.out⟩, Below.put hb3 _ hB1.size⟩
    have c6 : (V3.putObj V.heap.size (.deferred none)).cell? ⟨w.heap.size + 1, 0, none⟩ = some (.int .i64 ((n : Int) - (k : Int))) := ((HO3.out.get 0 rfl).put (.deferred none) (Ne.symm hzD)).cell 0
    simp [results, Tryd.results40, go_sem, c6]
end

section
def lastW (x y : BitVec 256) : Int := if L x 3 ≠ L y 3 then 3 else if L x 2 ≠ L y 2 then 2 else if L x 1 ≠ L y 1 then 1 else if L x 0 ≠ L y 0 then 0 else -1
abbrev wi (x : BitVec 256) : List Int := [L x 0, L x 1, L x 2, L x 3]
theorem lastW_of {x y : BitVec 256} {r : Int} (h : LastP (wi x) (wi y) r) : r = lastW x y := by
  unfold lastW
  rcases h with ⟨rfl, h⟩ | ⟨i, rfl, hi, h1, h2⟩
  · simp only [List.cons.injEq, and_true] at h
    obtain ⟨h0, h1, h2, h3⟩ := h
    rw [if_neg (by simp [h3]), if_neg (by simp [h2]), if_neg (by simp [h1]), if_neg (by simp [h0])]
  · simp only [List.length_cons, List.length_nil] at hi
    rcases (by omega : i = 0 ∨ i = 1 ∨ i = 2 ∨ i = 3) with rfl | rfl | rfl | rfl
    · have e1 := h2 1 (by omega); have e2 := h2 2 (by omega); have e3 := h2 3 (by omega)
      simp at e1 e2 e3 h1
      simp [e1, e2, e3, h1]
    · have e2 := h2 2 (by omega); have e3 := h2 3 (by omega)
      simp at e2 e3 h1
      simp [e2, e3, h1]
    · have e3 := h2 3 (by omega)
      simp at e3 h1
      simp [e3, h1]
    · simp at h1
      simp [h1]
theorem lastW_cases (x y : BitVec 256) : (lastW x y = -1 ∧ ordW x y = 0) ∨ ∃ q : Nat, q < 4 ∧ lastW x y = q ∧ (L x q < L y q ∧ ordW x y = -1 ∨ L y q < L x q ∧ ordW x y = 1) := by
  unfold lastW
  by_cases h3 : L x 3 = L y 3
  · by_cases h2 : L x 2 = L y 2
    · by_cases h1 : L x 1 = L y 1
      · by_cases h0 : L x 0 = L y 0
        · refine .inl ⟨by simp [h0, h1, h2, h3], ordW_eq fun j hj => ?_⟩
          rcases (by omega : j = 0 ∨ j = 1 ∨ j = 2 ∨ j = 3) with rfl | rfl | rfl | rfl <;> assumption
        · have hs : ∀ j, 0 < j → j < 4 → L x j = L y j := fun j hj hj4 => by rcases (by omega : j = 1 ∨ j = 2 ∨ j = 3) with rfl | rfl | rfl <;> assumption
          refine .inr ⟨0, by omega, by simp [h0, h1, h2, h3], ?_⟩
          rcases Int.lt_or_gt_of_ne h0 with h | h
          · exact .inl ⟨h, ordW_lt (by omega) hs h⟩
          · exact .inr ⟨h, ordW_gt (by omega) hs h⟩
      · have hs : ∀ j, 1 < j → j < 4 → L x j = L y j := fun j hj hj4 => by rcases (by omega : j = 2 ∨ j = 3) with rfl | rfl <;> assumption
        refine .inr ⟨1, by omega, by simp [h1, h2, h3], ?_⟩
        rcases Int.lt_or_gt_of_ne h1 with h | h
        · exact .inl ⟨h, ordW_lt (by omega) hs h⟩
        · exact .inr ⟨h, ordW_gt (by omega) hs h⟩
    · have hs : ∀ j, 2 < j → j < 4 → L x j = L y j := fun j hj hj4 => by rcases (by omega : j = 3) with rfl; assumption
      refine .inr ⟨2, by omega, by simp [h2, h3], ?_⟩
      rcases Int.lt_or_gt_of_ne h2 with h | h
      · exact .inl ⟨h, ordW_lt (by omega) hs h⟩
      · exact .inr ⟨h, ordW_gt (by omega) hs h⟩
  · have hs : ∀ j, 3 < j → j < 4 → L x j = L y j := fun j hj hj4 => by omega
    refine .inr ⟨3, by omega, by simp [h3], ?_⟩
    rcases Int.lt_or_gt_of_ne h3 with h | h
    · exact .inl ⟨h, ordW_lt (by omega) hs h⟩
    · exact .inr ⟨h, ordW_gt (by omega) hs h⟩
theorem lastW_any (x y : BitVec 256) (bx by_ : Nat) (t t' : TypeId) (V : World) (hx : Blk V bx (wc x) t) (hy : Blk V by_ (wc y) t') :
    Calls Tryd.prog 40 #[.slice (some ⟨bx, 0, none⟩) 4 4, .slice (some ⟨by_, 0, none⟩) 4 4] V fun e w' => e = .returned (.int .i64 (lastW x y)) ∧ Below V.heap.size V w' :=
  (last_any (some ⟨bx, 0, none⟩) (some ⟨by_, 0, none⟩) (wi x) (wi y) 4 4 V (SlAt.of_blk hx) (SlAt.of_blk hy) rfl (by simp) (by simp) (by simp)).mono fun e w' ⟨⟨r, he, hr⟩, hb⟩ => ⟨by rw [he, lastW_of hr], hb⟩
set_option maxHeartbeats 4000000 in
set_option maxRecDepth 20000 in
theorem orderW (x y : BitVec 256) (w : World) : Calls Tryd.prog 23 #[W x, W y] w fun e w' => e = .returned (.int .i64 (ordW x y)) ∧ Below w.heap.size w w' := by
  have HLA := Lib.hid (fun bx by_ V hx hy => lastW_any x y bx by_ 26 26 V hx hy)
  have hwx : ∀ q, q < 4 → (wc x)[q]? = some (.int .u64 (L x q)) := fun q h => wc_at x h
  have hwy : ∀ q, q < 4 → (wc y)[q]? = some (.int .u64 (L y q)) := fun q h => wc_at y h
  rcases lastW_cases x y with ⟨hl, ho⟩ | ⟨q, hq, hl, ⟨hc, ho⟩ | ⟨hc, ho⟩⟩
  · rw [hl] at HLA
    rw [ho]
    go_enter Tryd.func23, Tryd.ntmps23
    go_wp2_with fail
    refine wp_region_grow w.heap.size 3 0 0 [(0, 0, 64, 4), (1, 0, 128, 8), (2, 3, 256, 192), (3, 7, 32, 256)] [(.p 0, 1), (.p 1, 3), (.q 2, 7)] [(3, 15)] _ (fun p hp => hp) (by first | omega | (simp; done) | (simp; omega)) (by kernel_rfl) (by kernel_rfl) (Own.new (Own.new (Own.nil w) (w.heap.size) (by first | rfl | simp)) (w.heap.size + 1) (by simp)) ?_
    refine wpG_pure (i := 0) (v := ?v1x0) rfl rfl (by rfl) (fun w hB hG K hK => ?h1x0) ?_
    case h1x0 =>
      go_wp2_with fail
      exact hK _ (Below.refl _ _)
    simp only [List.set_cons_zero, List.set_cons_succ]
    refine wpG_pure (i := 1) (v := ?v1x1) rfl rfl (by rfl) (fun w hB hG K hK => ?h1x1) ?_
    case h1x1 =>
      go_wp2_with fail
      exact hK _ (Below.refl _ _)
    simp only [List.set_cons_zero, List.set_cons_succ]
    refine wpG_op (i := 2) (v := ?v1x2) rfl rfl (by rfl) (fun w hB hG K hK => ?h1x2) ?_
    case h1x2 =>
      go_wp2_with fail
      refine (HLA.out _ _ _ (hG.get 1 rfl) (hG.get 0 rfl)).mono ?_
      rintro e wx ⟨rfl, hbx⟩
      exact hK _ hbx
    simp only [List.set_cons_zero, List.set_cons_succ]
    refine wpG_nil (fun w1 hb1 hG1 => ?_)
    simp only [List.append_eq, List.cons_append, List.nil_append, List.drop_succ_cons, List.drop_zero, List.drop_nil]
    have O1 := Own.of hG1
    try simp only [List.setIfInBounds_toArray, List.set_cons_zero, List.set_cons_succ] at O1
    have bw1 : Below w.heap.size w w1 := Below.trans (by go_grown) (Below.mono hb1 (by first | omega | (simp; done) | (simp; omega)))
    have zw1 := Below.size hb1
    try simp only [World.size_alloc, World.size_drew, World.size_setCell] at zw1
    have c1x0 := Own.cell O1 0 rfl
    have f1x0 := Own.free O1 0 rfl
    have l1x0 := Own.lt O1 0 rfl
    have l1x0d0 := le_up 0 l1x0
    have l1x0d1 := le_up 1 l1x0
    simp only [upN] at l1x0d0 l1x0d1
    have c1x1 := Own.cell O1 1 rfl
    have f1x1 := Own.free O1 1 rfl
    have l1x1 := Own.lt O1 1 rfl
    have l1x1d0 := le_up 0 l1x1
    have l1x1d1 := le_up 1 l1x1
    simp only [upN] at l1x1d0 l1x1d1
    have HO1 := Lib.hid O1
    clear O1 hb1
    go_wp2_with fail
    go_ret
    exact ⟨rfl, by go_grown⟩
  · rw [hl] at HLA
    rw [ho]
    replace hwx := hwx q hq
    replace hwy := hwy q hq
    have d1 : decide (L x q < L y q) = true := by simpa using hc
    go_enter Tryd.func23, Tryd.ntmps23
    go_wp2_with fail
    refine wp_region_grow w.heap.size 3 0 0 [(0, 0, 64, 4), (1, 0, 128, 8), (2, 3, 256, 192), (3, 7, 32, 256)] [(.p 0, 1), (.p 1, 3), (.q 2, 7)] [(3, 15)] _ (fun p hp => hp) (by first | omega | (simp; done) | (simp; omega)) (by kernel_rfl) (by kernel_rfl) (Own.new (Own.new (Own.nil w) (w.heap.size) (by first | rfl | simp)) (w.heap.size + 1) (by simp)) ?_
    refine wpG_pure (i := 0) (v := ?v11x0) rfl rfl (by rfl) (fun w hB hG K hK => ?h11x0) ?_
    case h11x0 =>
      go_wp2_with fail
      exact hK _ (Below.refl _ _)
    simp only [List.set_cons_zero, List.set_cons_succ]
    refine wpG_pure (i := 1) (v := ?v11x1) rfl rfl (by rfl) (fun w hB hG K hK => ?h11x1) ?_
    case h11x1 =>
      go_wp2_with fail
      exact hK _ (Below.refl _ _)
    simp only [List.set_cons_zero, List.set_cons_succ]
    refine wpG_op (i := 2) (v := ?v11x2) rfl rfl (by rfl) (fun w hB hG K hK => ?h11x2) ?_
    case h11x2 =>
      go_wp2_with fail
      refine (HLA.out _ _ _ (hG.get 1 rfl) (hG.get 0 rfl)).mono ?_
      rintro e wx ⟨rfl, hbx⟩
      exact hK _ hbx
    simp only [List.set_cons_zero, List.set_cons_succ]
    refine wpG_nil (fun w11 hb11 hG11 => ?_)
    simp only [List.append_eq, List.cons_append, List.nil_append, List.drop_succ_cons, List.drop_zero, List.drop_nil]
    have O11 := Own.of hG11
    try simp only [List.setIfInBounds_toArray, List.set_cons_zero, List.set_cons_succ] at O11
    have bw11 : Below w.heap.size w w11 := Below.trans (by go_grown) (Below.mono hb11 (by first | omega | (simp; done) | (simp; omega)))
    have zw11 := Below.size hb11
    try simp only [World.size_alloc, World.size_drew, World.size_setCell] at zw11
    have c11x0 := Own.cell O11 0 rfl
    have f11x0 := Own.free O11 0 rfl
    have l11x0 := Own.lt O11 0 rfl
    have l11x0d0 := le_up 0 l11x0
    have l11x0d1 := le_up 1 l11x0
    simp only [upN] at l11x0d0 l11x0d1
    have c11x1 := Own.cell O11 1 rfl
    have f11x1 := Own.free O11 1 rfl
    have l11x1 := Own.lt O11 1 rfl
    have l11x1d0 := le_up 0 l11x1
    have l11x1d1 := le_up 1 l11x1
    simp only [upN] at l11x1d0 l11x1d1
    have HO11 := Lib.hid O11
    clear O11 hb11
    go_wp2_with fail
    refine wp_region_grow w.heap.size 8 0 0 [(0, 0, 8192, 32), (1, 1, 16384, 8196), (2, 2, 32768, 16384), (3, 0, 65536, 32), (4, 8, 131072, 65544), (5, 16, 262144, 131072), (6, 36, 524288, 294912), (7, 64, 4096, 524288)] [(.p 0, 1), (.p 1, 3), (.p 2, 7), (.p 3, 15), (.p 4, 31), (.p 5, 63), (.p 6, 127), (.p 7, 255)] [] _ (fun p hp => hp) (by first | omega | (simp; done) | (simp; omega)) (by kernel_rfl) (by kernel_rfl) HO11.out ?_
    refine wpG_move (i := 0) rfl rfl rfl (by rfl) rfl ?_
    simp only [List.set_cons_zero, List.set_cons_succ]
    refine wpG_pure (i := 1) (v := ?v12x1) rfl rfl (by rfl) (fun w hB hG K hK => ?h12x1) ?_
    case h12x1 =>
      go_wp2_with fail
      exact hK _ (Below.refl _ _)
    simp only [List.set_cons_zero, List.set_cons_succ]
    refine wpG_pure (i := 2) (v := ?v12x2) rfl rfl (by rfl) (fun w hB hG K hK => ?h12x2) ?_
    case h12x2 =>
      have hcx := (hG.cell 1 rfl q).trans hwx
      have cx := Own.cell hG 1 rfl
      go_wp2_with fail
      exact hK _ (Below.refl _ _)
    simp only [List.set_cons_zero, List.set_cons_succ]
    refine wpG_move (i := 3) rfl rfl rfl (by rfl) rfl ?_
    simp only [List.set_cons_zero, List.set_cons_succ]
    refine wpG_pure (i := 4) (v := ?v12x4) rfl rfl (by rfl) (fun w hB hG K hK => ?h12x4) ?_
    case h12x4 =>
      go_wp2_with fail
      exact hK _ (Below.refl _ _)
    simp only [List.set_cons_zero, List.set_cons_succ]
    refine wpG_pure (i := 5) (v := ?v12x5) rfl rfl (by rfl) (fun w hB hG K hK => ?h12x5) ?_
    case h12x5 =>
      have hcy := (hG.cell 0 rfl q).trans hwy
      have cx := Own.cell hG 0 rfl
      go_wp2_with fail
      exact hK _ (Below.refl _ _)
    simp only [List.set_cons_zero, List.set_cons_succ]
    refine wpG_pure (i := 6) (v := ?v12x6) rfl rfl (by rfl) (fun w hB hG K hK => ?h12x6) ?_
    case h12x6 =>
      go_wp2_with fail
      exact hK _ (Below.refl _ _)
    simp only [List.set_cons_zero, List.set_cons_succ]
    refine wpG_assign (i := 7) rfl rfl rfl (by rfl) rfl ?_
    simp only [List.set_cons_zero, List.set_cons_succ]
    refine wpG_nil (fun w12 hb12 hG12 => ?_)
    simp only [List.append_eq, List.cons_append, List.nil_append, List.drop_succ_cons, List.drop_zero, List.drop_nil]
    have O12 := Own.of hG12
    try simp only [List.setIfInBounds_toArray, List.set_cons_zero, List.set_cons_succ] at O12
    have bw12 : Below w.heap.size w w12 := Below.trans (by go_grown) (Below.mono hb12 (by first | omega | (simp; done) | (simp; omega)))
    have zw12 := Below.size hb12
    try simp only [World.size_alloc, World.size_drew, World.size_setCell] at zw12
    clear c11x0 f11x0 l11x0 l11x0d0 l11x0d1 c11x1 f11x1 l11x1 l11x1d0 l11x1d1
    have c12x0 := Own.cell O12 0 rfl
    have f12x0 := Own.free O12 0 rfl
    have l12x0 := Own.lt O12 0 rfl
    have l12x0d0 := le_up 0 l12x0
    have l12x0d1 := le_up 1 l12x0
    simp only [upN] at l12x0d0 l12x0d1
    have c12x1 := Own.cell O12 1 rfl
    have f12x1 := Own.free O12 1 rfl
    have l12x1 := Own.lt O12 1 rfl
    have l12x1d0 := le_up 0 l12x1
    have l12x1d1 := le_up 1 l12x1
    simp only [upN] at l12x1d0 l12x1d1
    have HO12 := Lib.hid O12
    clear O12 hb12
    go_wp2_with fail
    go_ret
    exact ⟨rfl, by go_grown⟩
  · rw [hl] at HLA
    rw [ho]
    replace hwx := hwx q hq
    replace hwy := hwy q hq
    have d1 : decide (L x q < L y q) = false := by simp; omega
    go_enter Tryd.func23, Tryd.ntmps23
    go_wp2_with fail
    refine wp_region_grow w.heap.size 3 0 0 [(0, 0, 64, 4), (1, 0, 128, 8), (2, 3, 256, 192), (3, 7, 32, 256)] [(.p 0, 1), (.p 1, 3), (.q 2, 7)] [(3, 15)] _ (fun p hp => hp) (by first | omega | (simp; done) | (simp; omega)) (by kernel_rfl) (by kernel_rfl) (Own.new (Own.new (Own.nil w) (w.heap.size) (by first | rfl | simp)) (w.heap.size + 1) (by simp)) ?_
    refine wpG_pure (i := 0) (v := ?v21x0) rfl rfl (by rfl) (fun w hB hG K hK => ?h21x0) ?_
    case h21x0 =>
      go_wp2_with fail
      exact hK _ (Below.refl _ _)
    simp only [List.set_cons_zero, List.set_cons_succ]
    refine wpG_pure (i := 1) (v := ?v21x1) rfl rfl (by rfl) (fun w hB hG K hK => ?h21x1) ?_
    case h21x1 =>
      go_wp2_with fail
      exact hK _ (Below.refl _ _)
    simp only [List.set_cons_zero, List.set_cons_succ]
    refine wpG_op (i := 2) (v := ?v21x2) rfl rfl (by rfl) (fun w hB hG K hK => ?h21x2) ?_
    case h21x2 =>
      go_wp2_with fail
      refine (HLA.out _ _ _ (hG.get 1 rfl) (hG.get 0 rfl)).mono ?_
      rintro e wx ⟨rfl, hbx⟩
      exact hK _ hbx
    simp only [List.set_cons_zero, List.set_cons_succ]
    refine wpG_nil (fun w21 hb21 hG21 => ?_)
    simp only [List.append_eq, List.cons_append, List.nil_append, List.drop_succ_cons, List.drop_zero, List.drop_nil]
    have O21 := Own.of hG21
    try simp only [List.setIfInBounds_toArray, List.set_cons_zero, List.set_cons_succ] at O21
    have bw21 : Below w.heap.size w w21 := Below.trans (by go_grown) (Below.mono hb21 (by first | omega | (simp; done) | (simp; omega)))
    have zw21 := Below.size hb21
    try simp only [World.size_alloc, World.size_drew, World.size_setCell] at zw21
    have c21x0 := Own.cell O21 0 rfl
    have f21x0 := Own.free O21 0 rfl
    have l21x0 := Own.lt O21 0 rfl
    have l21x0d0 := le_up 0 l21x0
    have l21x0d1 := le_up 1 l21x0
    simp only [upN] at l21x0d0 l21x0d1
    have c21x1 := Own.cell O21 1 rfl
    have f21x1 := Own.free O21 1 rfl
    have l21x1 := Own.lt O21 1 rfl
    have l21x1d0 := le_up 0 l21x1
    have l21x1d1 := le_up 1 l21x1
    simp only [upN] at l21x1d0 l21x1d1
    have HO21 := Lib.hid O21
    clear O21 hb21
    go_wp2_with fail
    refine wp_region_grow w.heap.size 8 0 0 [(0, 0, 8192, 32), (1, 1, 16384, 8196), (2, 2, 32768, 16384), (3, 0, 65536, 32), (4, 8, 131072, 65544), (5, 16, 262144, 131072), (6, 36, 524288, 294912), (7, 64, 4096, 524288)] [(.p 0, 1), (.p 1, 3), (.p 2, 7), (.p 3, 15), (.p 4, 31), (.p 5, 63), (.p 6, 127), (.p 7, 255)] [] _ (fun p hp => hp) (by first | omega | (simp; done) | (simp; omega)) (by kernel_rfl) (by kernel_rfl) HO21.out ?_
    refine wpG_move (i := 0) rfl rfl rfl (by rfl) rfl ?_
    simp only [List.set_cons_zero, List.set_cons_succ]
    refine wpG_pure (i := 1) (v := ?v22x1) rfl rfl (by rfl) (fun w hB hG K hK => ?h22x1) ?_
    case h22x1 =>
      go_wp2_with fail
      exact hK _ (Below.refl _ _)
    simp only [List.set_cons_zero, List.set_cons_succ]
    refine wpG_pure (i := 2) (v := ?v22x2) rfl rfl (by rfl) (fun w hB hG K hK => ?h22x2) ?_
    case h22x2 =>
      have hcx := (hG.cell 1 rfl q).trans hwx
      have cx := Own.cell hG 1 rfl
      go_wp2_with fail
      exact hK _ (Below.refl _ _)
    simp only [List.set_cons_zero, List.set_cons_succ]
    refine wpG_move (i := 3) rfl rfl rfl (by rfl) rfl ?_
    simp only [List.set_cons_zero, List.set_cons_succ]
    refine wpG_pure (i := 4) (v := ?v22x4) rfl rfl (by rfl) (fun w hB hG K hK => ?h22x4) ?_
    case h22x4 =>
      go_wp2_with fail
      exact hK _ (Below.refl _ _)
    simp only [List.set_cons_zero, List.set_cons_succ]
    refine wpG_pure (i := 5) (v := ?v22x5) rfl rfl (by rfl) (fun w hB hG K hK => ?h22x5) ?_
    case h22x5 =>
      have hcy := (hG.cell 0 rfl q).trans hwy
      have cx := Own.cell hG 0 rfl
      go_wp2_with fail
      exact hK _ (Below.refl _ _)
    simp only [List.set_cons_zero, List.set_cons_succ]
    refine wpG_pure (i := 6) (v := ?v22x6) rfl rfl (by rfl) (fun w hB hG K hK => ?h22x6) ?_
    case h22x6 =>
      go_wp2_with fail
      exact hK _ (Below.refl _ _)
    simp only [List.set_cons_zero, List.set_cons_succ]
    refine wpG_assign (i := 7) rfl rfl rfl (by rfl) rfl ?_
    simp only [List.set_cons_zero, List.set_cons_succ]
    refine wpG_nil (fun w22 hb22 hG22 => ?_)
    simp only [List.append_eq, List.cons_append, List.nil_append, List.drop_succ_cons, List.drop_zero, List.drop_nil]
    have O22 := Own.of hG22
    try simp only [List.setIfInBounds_toArray, List.set_cons_zero, List.set_cons_succ] at O22
    have bw22 : Below w.heap.size w w22 := Below.trans (by go_grown) (Below.mono hb22 (by first | omega | (simp; done) | (simp; omega)))
    have zw22 := Below.size hb22
    try simp only [World.size_alloc, World.size_drew, World.size_setCell] at zw22
    clear c21x0 f21x0 l21x0 l21x0d0 l21x0d1 c21x1 f21x1 l21x1 l21x1d0 l21x1d1
    have c22x0 := Own.cell O22 0 rfl
    have f22x0 := Own.free O22 0 rfl
    have l22x0 := Own.lt O22 0 rfl
    have l22x0d0 := le_up 0 l22x0
    have l22x0d1 := le_up 1 l22x0
    simp only [upN] at l22x0d0 l22x0d1
    have c22x1 := Own.cell O22 1 rfl
    have f22x1 := Own.free O22 1 rfl
    have l22x1 := Own.lt O22 1 rfl
    have l22x1d0 := le_up 0 l22x1
    have l22x1d1 := le_up 1 l22x1
    simp only [upN] at l22x1d0 l22x1d1
    have HO22 := Lib.hid O22
    clear O22 hb22
    go_wp2_with fail
    go_ret
    exact ⟨rfl, by go_grown⟩
end

section
theorem run_sub (x y c : Int) (hx : 0 ≤ x) (hx' : x < 18446744073709551616) (hy : 0 ≤ y) (hy' : y < 18446744073709551616) (hc0 : 0 ≤ c) (hc : c ≤ 1) (w : World) :
    (callFunc 38 #[.int .u64 x, .int .u64 y, .int .u64 c]).run Tryd.prog w = .ok (.value (.tuple #[.int .u64 (sLo x y c), .int .u64 (sHi x y c)])) w := by
  rw [run_callFunc_extern (P := Tryd.prog) Tryd.func38 (by kernel_rfl) (by kernel_rfl) (by kernel_rfl) (e := sub64Entry) (by kernel_rfl)]
  obtain ⟨k, rfl⟩ := Int.eq_ofNat_of_zero_le hc0
  obtain ⟨X, rfl⟩ := Int.eq_ofNat_of_zero_le hx
  obtain ⟨Y, rfl⟩ := Int.eq_ofNat_of_zero_le hy
  rw [run_sub64 X Y k (by omega), sLo_eq, sHi_eq]
  simp only [Result.andThen]
  have e1 : (((X + 18446744073709551616 - Y - k) % 18446744073709551616 : Nat) : Int) = ((X : Int) - Y - k) % 18446744073709551616 := by omega
  have e2 : ((if X < Y + k then 1 else 0 : Nat) : Int) = if (X : Int) < Y + k then 1 else 0 := by split <;> split <;> omega
  rw [e1, e2]
/-- What the sum's place holds behind k rounds. -/
def subRow (x y : BitVec 256) : Nat → Array Value
  | 0 => #[.int .u64 0, .int .u64 0, .int .u64 0, .int .u64 0]
  | 1 => #[.int .u64 (sLo (L x 0) (L y 0) 0), .int .u64 0, .int .u64 0, .int .u64 0]
  | 2 => #[.int .u64 (sLo (L x 0) (L y 0) 0), .int .u64 (sLo (L x 1) (L y 1) (d1 x y)), .int .u64 0, .int .u64 0]
  | 3 => #[.int .u64 (sLo (L x 0) (L y 0) 0), .int .u64 (sLo (L x 1) (L y 1) (d1 x y)), .int .u64 (sLo (L x 2) (L y 2) (d2 x y)), .int .u64 0]
  | _ => #[.int .u64 (sLo (L x 0) (L y 0) 0), .int .u64 (sLo (L x 1) (L y 1) (d1 x y)), .int .u64 (sLo (L x 2) (L y 2) (d2 x y)), .int .u64 (sLo (L x 3) (L y 3) (d3 x y))]
def subC (x y : BitVec 256) : Nat → Int
  | 0 => 0
  | 1 => d1 x y
  | 2 => d2 x y
  | 3 => d3 x y
  | _ => sHi (L x 3) (L y 3) (d3 x y)

set_option maxHeartbeats 1000000 in
theorem fold_sub (x y : BitVec 256) (w : World) :
    Calls Tryd.prog 26 #[W x, W y, .func (.func 38) #[] #[]] w fun e w' => e = .returned (W (x - y)) ∧ Below w.heap.size w w' := by
  have hadd := run_sub
  have xh0 := L_hi x 0; have xh1 := L_hi x 1; have xh2 := L_hi x 2; have xh3 := L_hi x 3
  have yh0 := L_hi y 0; have yh1 := L_hi y 1; have yh2 := L_hi y 2; have yh3 := L_hi y 3
  have hsd := setCell_drewN
  have x0 := L_lo x 0; have x1 := L_lo x 1; have x2 := L_lo x 2; have x3 := L_lo x 3
  have y0 := L_lo y 0; have y1 := L_lo y 1; have y2 := L_lo y 2; have y3 := L_lo y 3
  have k1 := (d1_bd x y).1; have k1' := (d1_bd x y).2
  have k2 := (d2_bd x y).1; have k2' := (d2_bd x y).2
  have k3 := (d3_bd x y).1; have k3' := (d3_bd x y).2
  go_enter Tryd.func26, Tryd.ntmps26
  go_wp2_with fail
  go_loopw [7, 9] (fun c i wr => ∃ k nd : Nat, k ≤ 4 ∧ i = .int .i64 k ∧ c = .int .u64 (subC x y k) ∧ wr = (((w.alloc (.cells #[.int .u64 (L x 0), .int .u64 (L x 1), .int .u64 (L x 2), .int .u64 (L x 3)] 52)).alloc (.cells #[.int .u64 (L y 0), .int .u64 (L y 1), .int .u64 (L y 2), .int .u64 (L y 3)] 26)).alloc (.cells (subRow x y k) 26)).drewN nd)
    (fun _ i _ => 4 - (intOf i).toNat)
  case atStart => exact ⟨0, 0, by omega, rfl, rfl, rfl⟩
  case round =>
    obtain ⟨k, nd, hk, rfl, rfl, rfl⟩ := hrel
    rcases (by omega : k = 4 ∨ k = 0 ∨ k = 1 ∨ k = 2 ∨ k = 3) with rfl | rfl | rfl | rfl | rfl
    · simp only [subRow, subC]
      go_wp2_with fail
      go_returns
      obtain ⟨q0, q1, q2, q3⟩ := sub_parts x y
      refine ⟨by simp only [q0, q1, q2, q3], below_drewN ?_ _⟩
      go_grown
    all_goals
      simp only [subRow, subC]
      go_wp2_with fail
      go_region_with fail
      all_goals go_wp2_with fail
      all_goals go_roundw
    all_goals first | exact ⟨1, nd + 1, by omega, rfl, rfl, rfl⟩ | exact ⟨2, nd + 1, by omega, rfl, rfl, rfl⟩ | exact ⟨3, nd + 1, by omega, rfl, rfl, rfl⟩ | exact ⟨4, nd + 1, by omega, rfl, rfl, rfl⟩ | (simp [intOf]; done)
set_option maxHeartbeats 1000000 in
theorem subW_any (x y : BitVec 256) (w : World) : Calls Tryd.prog 21 #[W x, W y] w fun e w' => e = .returned (W (x - y)) ∧ Below w.heap.size w w' := by
  have HF := Lib.hid (fun V => fold_sub x y V)
  have hfl : ∀ V : World, (Instr.field 54 (.agg #[.int .u64 (L x 0), .int .u64 (L x 1), .int .u64 (L x 2), .int .u64 (L x 3)]) 0).run Tryd.prog V = .ok (.agg #[.int .u64 (L x 0), .int .u64 (L x 1), .int .u64 (L x 2), .int .u64 (L x 3)]) V := fun _ => by kernel_rfl
  go_enter Tryd.func21, Tryd.ntmps21
  go_wp2_with fail
  refine (HF.out _).mono ?_
  rintro e w1 ⟨rfl, hb1⟩
  have O1 := Own.grow' hb1 (Own.new (Own.new (Own.new (Own.nil w) (w.heap.size) (by first | rfl | simp)) (w.heap.size + 1) (by simp)) (w.heap.size + 1 + 1) (by simp))
  try simp only [List.setIfInBounds_toArray, List.set_cons_zero, List.set_cons_succ] at O1
  have bw1 : Below w.heap.size w w1 := Below.trans (by go_grown) (Below.mono hb1 (by first | omega | (simp; done) | (simp; omega)))
  have zw1 := Below.size hb1
  try simp only [World.size_alloc, World.size_drew, World.size_setCell] at zw1
  have c1x0 := Own.cell O1 0 rfl
  have f1x0 := Own.free O1 0 rfl
  have l1x0 := Own.lt O1 0 rfl
  have l1x0d0 := le_up 0 l1x0
  have l1x0d1 := le_up 1 l1x0
  simp only [upN] at l1x0d0 l1x0d1
  have c1x1 := Own.cell O1 1 rfl
  have f1x1 := Own.free O1 1 rfl
  have l1x1 := Own.lt O1 1 rfl
  have l1x1d0 := le_up 0 l1x1
  have l1x1d1 := le_up 1 l1x1
  simp only [upN] at l1x1d0 l1x1d1
  have c1x2 := Own.cell O1 2 rfl
  have f1x2 := Own.free O1 2 rfl
  have l1x2 := Own.lt O1 2 rfl
  have l1x2d0 := le_up 0 l1x2
  have l1x2d1 := le_up 1 l1x2
  simp only [upN] at l1x2d0 l1x2d1
  have HO1 := Lib.hid O1
  clear O1 hb1
  go_wp2_with fail
  refine bodyPost_ret (v := W (x - y)) (by simp [results, Tryd.results21, go_sem, *]) rfl ?_
  exact ⟨rfl, by go_grown⟩
end

section
/-- The word of limbs. -/
def wL (f : Nat → Nat) : BitVec 256 := mkW (BitVec.ofNat 64 (f 0)) (BitVec.ofNat 64 (f 1)) (BitVec.ofNat 64 (f 2)) (BitVec.ofNat 64 (f 3))
theorem W_wL {f : Nat → Nat} (h : ∀ q, f q < 2 ^ 64) : W (wL f) = .agg (limbs f) := by
  unfold wL
  rw [W_mkW]
  have h0 := h 0; have h1 := h 1; have h2 := h 2; have h3 := h 3
  simp only [BitVec.toNat_ofNat, Nat.mod_eq_of_lt h0, Nat.mod_eq_of_lt h1, Nat.mod_eq_of_lt h2, Nat.mod_eq_of_lt h3]
/-- The word of bytes, and an error. -/
def readS (xs : List Nat) : BitVec 256 × Nat := if xs.length ≤ 32 then (wL (ob (fR xs xs.length)), 0) else (0#256, 3)
theorem wordRead_any' (A : Option Addr) (xs : List Nat) (cap : Nat) (w : World) (hxs : SlAt w A (xs.map fun x : Nat => Value.int .u8 (x : Int))) (hb8 : ∀ x ∈ xs, x < 256) :
    Calls Tryd.prog 14 #[.slice A xs.length cap] w fun e w' => e = .returned (.tuple #[W (readS xs).1, .int .i64 ((readS xs).2 : Nat)]) ∧ Below w.heap.size w w' := by
  have e : natC xs = xs.map fun x : Nat => Value.int .u8 (x : Int) := by unfold natC bytesC; rw [List.map_map]; rfl
  unfold readS
  by_cases h : xs.length ≤ 32
  · rw [if_pos h]
    show Calls _ _ _ _ fun e w' => e = .returned (.tuple #[W (wL (ob (fR xs xs.length))), .int .i64 0]) ∧ _
    rw [W_wL (ob_lt (fR_lt hb8 _))]
    exact wordRead_any A xs cap w (by rw [e]; exact hxs) h hb8
  · rw [if_neg h]
    show Calls _ _ _ _ fun e w' => e = .returned (.tuple #[W 0#256, .int .i64 3]) ∧ _
    rw [W_zero]
    exact wordRead_long A _ cap w (by omega)
theorem refRead_any' (A : Option Addr) (xs : List Nat) (cap : Nat) (w : World) (hxs : SlAt w A (xs.map fun x : Nat => Value.int .u8 (x : Int))) (hb8 : ∀ x ∈ xs, x < 256) :
    Calls Tryd.prog 16 #[.slice A xs.length cap] w fun e w' => e = .returned (.tuple #[W (readS xs).1, .int .i64 ((readS xs).2 : Nat)]) ∧ Below w.heap.size w w' := by
  have e : natC xs = xs.map fun x : Nat => Value.int .u8 (x : Int) := by unfold natC bytesC; rw [List.map_map]; rfl
  unfold readS
  by_cases h : xs.length ≤ 32
  · rw [if_pos h]
    show Calls _ _ _ _ fun e w' => e = .returned (.tuple #[W (wL (ob (fR xs xs.length))), .int .i64 0]) ∧ _
    rw [W_wL (ob_lt (fR_lt hb8 _))]
    exact refRead_any A xs cap w (by rw [e]; exact hxs) h hb8
  · rw [if_neg h]
    show Calls _ _ _ _ fun e w' => e = .returned (.tuple #[W 0#256, .int .i64 3]) ∧ _
    rw [W_zero]
    exact refRead_long A _ cap w (by omega)
def ctrRead (R : Rws) : CtrF
  | [x], H => match newsA R H 1 x with
    | some (m, G, cs) => some (.tuple [wA (readS (bytesOf G m)).1, .int .i64 false ((readS (bytesOf G m)).2 : Nat)], bytesB G m :: cs)
    | none => none
  | _, _ => none
theorem told_WI (x : BitVec 256) (n : Int) : (AV.tuple [wA x, .int .i64 false n]).told? = some (.tuple #[W x, .int .i64 n]) := by
  show ((AV.plains? [wA x, .int .i64 false n]).map fun l => Value.tuple l.toArray) = _
  have h : (wA x).plain? = some (W x) := told_wA x
  unfold AV.plains?
  rw [h]
  rfl
theorem ctrRead_ok {R : Rws} (hR : RwOK R) {f : FuncId} (hen : Enters Tryd.prog f) (h : ∀ (A : Option Addr) (xs : List Nat) (cap : Nat) (w : World), SlAt w A (xs.map fun x : Nat => Value.int .u8 (x : Int)) → (∀ x ∈ xs, x < 256) → Calls Tryd.prog f #[.slice A xs.length cap] w fun e w' => e = .returned (.tuple #[W (readS xs).1, .int .i64 ((readS xs).2 : Nat)]) ∧ Below w.heap.size w w') : Good Tryd.prog R f (ctrRead R) := by
  refine ⟨hen, fun args H v cs hv hcs => ?_⟩
  unfold ctrRead at hv
  split at hv
  · rename_i x H'
    split at hv
    · rename_i m G cs' hn
      cases hv
      have hb := hcs _ (List.mem_cons_self ..)
      refine ⟨_, told_WI _ _, fun Hr Args ha hB hA w hO => ?_⟩
      cases ha with | cons a1 ha =>
      cases ha
      obtain ⟨A, c, rfl, hs⟩ := bytes_slAt hR hB hn (fun c hc => hcs c (List.mem_cons_of_mem _ hc)) hb a1
      have := h A (bytesOf G m) c w (hs w hO) (bytesOf_lt hb)
      rw [bytesOf_len] at this
      exact this
    · cases hv
  · cases hv
theorem take1_drop {α : Type} {l : List α} {i : Nat} {v : α} (h : l[i]? = some v) : (l.drop i).take 1 = [v] := by
  obtain ⟨hi, rfl⟩ := List.getElem?_eq_some_iff.1 h
  rw [List.drop_eq_getElem_cons hi]; rfl
/-- A word, told by its cells. -/
def wordV : List AV → Option (BitVec 256)
  | [c0, c1, c2, c3] => asW (.agg [c0, c1, c2, c3])
  | _ => none
theorem wordV_vals {l : List AV} {x : BitVec 256} (h : wordV l = some x) : AV.vals? l = some (wl x) := by
  unfold wordV at h
  split at h
  · rename_i c0 c1 c2 c3
    unfold asW at h
    simp only at h
    split at h
    · rename_i a b c d h0 h1 h2 h3
      cases h
      have key : ∀ {v : AV} {a : BitVec 64}, asB64 v = some a → v.val? = some (.int .u64 (a.toNat : Int)) := fun {v a} hv => by
        obtain ⟨V0, h0⟩ : ∃ V0, v.val? = some V0 := by
          unfold asB64 AV.asBv at hv
          split at hv
          · split at hv
            · rename_i e; subst e; exact ⟨_, by simp [AV.val?, IntKind.signed]; rfl⟩
            · cases hv
          · exact ⟨_, rfl⟩
          · cases hv
        rw [h0, asBv_sound (R := noRows) (ρ := []) hv (Rel.of_val h0) rfl]
        rfl
      have hm := W_mkW a b c d
      have hl : wl (mkW a b c d) = [.int .u64 (a.toNat : Int), .int .u64 (b.toNat : Int), .int .u64 (c.toNat : Int), .int .u64 (d.toNat : Int)] := by
        unfold W at hm
        injection hm with hm
        have := congrArg Array.toList hm
        simpa [wl] using this
      rw [hl]
      simp [AV.vals?, key h0, key h1, key h2, key h3]
    · cases h
  · cases h
def wordsB (G : Nat → List AV) (m : Nat) : Bool := (List.range m).all fun i => (wordV (G i)).isSome
def wordsOf (G : Nat → List AV) (m : Nat) : List (BitVec 256) := (List.range m).map fun i => (wordV (G i)).getD 0#256
def ctrAdd (R : Rws) : CtrF
  | [x], H => match newsA R H 4 x with
    | some (m, G, cs) => some (wA ((wordsOf G m).foldl (· + ·) 0), decide (m ≤ 1000) :: wordsB G m :: cs)
    | none => none
  | _, _ => none
theorem ctrAdd_ok {R : Rws} (hR : RwOK R) : Good Tryd.prog R 9 (ctrAdd R) := by
  refine ⟨enters_of Tryd.func9 (by kernel_rfl) rfl, fun args H v cs hv hcs => ?_⟩
  unfold ctrAdd at hv
  split at hv
  · rename_i x H'
    split at hv
    · rename_i m G cs' hn
      cases hv
      have hm := of_decide_eq_true (hcs _ (List.mem_cons_self ..))
      have hb := hcs _ (List.mem_cons_of_mem _ (List.mem_cons_self ..))
      refine ⟨_, told_wA _, fun Hr Args ha hB hA w hO => ?_⟩
      cases ha with | cons a1 ha =>
      cases ha
      obtain ⟨A, c, rfl, hs⟩ := newsA_slAt (by decide) hR hB hn (fun c hc => hcs c (List.mem_cons_of_mem _ (List.mem_cons_of_mem _ hc))) a1
      have h1 := hs (fun i => wl ((wordV (G i)).getD 0#256)) (fun i hi => by
        have := List.all_eq_true.1 hb i (List.mem_range.2 hi)
        obtain ⟨y, hy⟩ := Option.isSome_iff_exists.1 this
        rw [wordV_vals hy, hy]; rfl) w hO
      have e : (List.range m).flatMap (fun i => wl ((wordV (G i)).getD 0#256)) = (wordsOf G m).flatMap wl := by
        unfold wordsOf
        rw [List.flatMap_map]
      rw [e] at h1
      have := addL_any A (wordsOf G m) c w h1 (by simp [wordsOf]; omega)
      rw [show (wordsOf G m).length = m by simp [wordsOf]] at this
      exact this
    · cases hv
  · cases hv
/-- The bytes of a word. -/
def ctmBytes (e : TypeId) : CtmF
  | [x], H, _ => match asW x with
    | some a => some (.gsl .top H.length 0 32, H ++ [.row 32 1 (fun i => [.int .u8 false ((byteAt (lq a) (31 - i) : Nat) : Int)]) e none], [])
    | none => none
  | _, _, _ => none
theorem ctmBytes_ok {R : Rws} : GoodM Tryd.prog R 11 (ctmBytes 5) := by
  refine ⟨enters_of Tryd.func11 (by kernel_rfl) rfl, fun args H wr v H' cs hv hcs Hr w Args ha hB hA hO => ?_⟩
  unfold ctmBytes at hv
  split at hv
  · rename_i x H'' wr'
    split at hv
    · rename_i a hx
      cases hv
      cases ha with | cons a1 ha =>
      cases ha
      rw [asW_rel hx a1]
      show Calls _ _ #[W a] _ _
      rw [W_lq]
      refine (wbOwn_any (lq a) w (lq_lt a)).mono ?_
      rintro e w' ⟨V, rfl, hown, hb⟩
      have hown' : w'.ownsRow w.heap.size 5 1 V 32 (bytesC (wbs (lq a))) := ⟨hown.1, hown.2.imp id fun ⟨g, cap, cur, h1, h2, h3⟩ => ⟨g, cap, cur, h1, by omega, h3⟩⟩
      obtain ⟨Hr', h1, h2, h3, h4, h5⟩ := fresh_row (wr := wr) (G := fun i => [.int .u8 false ((byteAt (lq a) (31 - i) : Nat) : Int)]) (by decide) hown' (fun i hi => by
        have : (bytesC (wbs (lq a)))[i]? = some (.int .u8 ((byteAt (lq a) (31 - i) : Nat) : Int)) := by simp [bytesC, wbs, hi]
        rw [Nat.mul_one, take1_drop this]
        rfl) (fun v hv => by
        unfold bytesC at hv
        obtain ⟨y, _, rfl⟩ := List.mem_map.1 hv
        rfl) hB hA hO hb
      exact ⟨V, Hr', rfl, h1, h2, h3, h4, h5⟩
    · cases hv
  · cases hv
end

section
theorem byteAt_lq' (x : BitVec 256) (j : Nat) : byteAt (lq x) j = x.toNat / 256 ^ j % 256 := by
  rw [byteAt_lq]; rfl
/-- The number of letters, one behind another. -/
def hv (l : List UInt8) (a : BitVec 256) : BitVec 256 := l.foldl (fun a c => a * 16#256 + BitVec.ofNat 256 (hexI c.toNat).toNat) a
theorem psW_take (l : List UInt8) : ∀ k, k ≤ l.length → psW l k = hv (l.take k) 0#256
  | 0, _ => by simp [psW, hv]
  | k + 1, h => by
    have hk : k < l.length := by omega
    rw [psW, psW_take l k (by omega), List.take_add_one, List.getElem?_eq_getElem hk]
    unfold hv
    rw [List.foldl_append]
    simp [List.getD, List.getElem?_eq_getElem hk]
theorem psW_all (l : List UInt8) : psW l l.length = hv l 0#256 := by rw [psW_take l _ (Nat.le_refl _), List.take_length]
theorem hv_trim : ∀ l : List UInt8, hv (Lib.trimLeftB l 48) 0#256 = hv l 0#256
  | [] => rfl
  | c :: r => by
    unfold Lib.trimLeftB
    rw [List.dropWhile_cons]
    by_cases hc : (c == 48) = true
    · rw [if_pos hc]
      have : c = 48 := eq_of_beq hc
      subst this
      show hv (Lib.trimLeftB r 48) 0#256 = hv (48 :: r) 0#256
      rw [hv_trim r]
      rfl
    · rw [if_neg hc]
theorem hex_let (d : Nat) (h : d < 16) : hexI (UInt8.ofNat (hexN d)).toNat = (d : Int) := by
  have : ∀ d : Fin 16, hexI (UInt8.ofNat (hexN d.val)).toNat = (d.val : Int) := by decide
  exact this ⟨d, h⟩
theorem hex_letN (f : Nat → Nat) (k : Nat) : hexI (letN f k).toNat = (txD f k : Int) := hex_let _ (txD_lt f k)
/-- What so many letters of a word come to. -/
theorem hv_lets (x : BitVec 256) : ∀ k, k ≤ 32 → hv (lets (fun j => byteAt (lq x) (31 - j)) (2 * k)) 0#256 = BitVec.ofNat 256 (x.toNat / 256 ^ (32 - k))
  | 0, _ => by
    have : x.toNat / 256 ^ 32 = 0 := Nat.div_eq_of_lt (by rw [pow256]; exact x.isLt)
    show 0#256 = _
    rw [Nat.sub_zero, this]
  | k + 1, h => by
    have ih := hv_lets x k (by omega)
    generalize hf : (fun j => byteAt (lq x) (31 - j)) = f at *
    have hfk : f k = x.toNat / 256 ^ (31 - k) % 256 := by rw [← hf]; exact byteAt_lq' x (31 - k)
    have e : hv (lets f (2 * (k + 1))) 0#256 = (hv (lets f (2 * k)) 0#256 * 16#256 + BitVec.ofNat 256 (f k / 16)) * 16#256 + BitVec.ofNat 256 (f k % 16) := by
      have t1 : txD f (2 * k) = f k / 16 := by
        have : f k < 256 := by rw [hfk]; exact Nat.mod_lt _ (by decide)
        unfold txD; rw [if_pos (by omega), show 2 * k / 2 = k by omega]; omega
      have t2 : txD f (2 * k + 1) = f k % 16 := by
        unfold txD; rw [if_neg (by omega), show (2 * k + 1) / 2 = k by omega]
      rw [show 2 * (k + 1) = 2 * k + 1 + 1 by omega, lets_succ, lets_succ]
      unfold hv
      rw [List.foldl_append, List.foldl_append]
      simp only [List.foldl_cons, List.foldl_nil, hex_letN, t1, t2, Int.toNat_natCast]
    rw [e, ih]
    apply BitVec.eq_of_toNat_eq
    simp only [BitVec.toNat_add, BitVec.toNat_mul, BitVec.toNat_ofNat]
    have e2 : x.toNat / 256 ^ (32 - (k + 1)) = (x.toNat / 256 ^ (32 - k)) * 256 + f k := by
      rw [hfk, show 32 - (k + 1) = 31 - k by omega, show 32 - k = 31 - k + 1 by omega, Nat.pow_succ, ← Nat.div_div_eq_div_mul]
      omega
    rw [e2]
    generalize x.toNat / 256 ^ (32 - k) = n
    generalize f k = m
    have hm := Nat.div_add_mod m 16
    omega
theorem hv_word (x : BitVec 256) : hv (lets (fun j => byteAt (lq x) (31 - j)) 64) 0#256 = x := by
  have h := hv_lets x 32 (Nat.le_refl _)
  rw [show 2 * 32 = 64 from rfl] at h
  rw [h, Nat.sub_self, Nat.pow_zero, Nat.div_one]
  exact BitVec.ofNat_toNat _ _ ▸ by simp
theorem mem_lets {f : Nat → Nat} {k : Nat} {c : UInt8} (h : c ∈ lets f k) : 0 ≤ hexI c.toNat := by
  obtain ⟨j, _, rfl⟩ := List.mem_map.1 h
  rw [hex_letN]; omega
/-- A word's text says that word. -/
theorem parse_txW (x : BitVec 256) : parseS (txW x) = (x, 0) := by
  generalize hf : (fun j => byteAt (lq x) (31 - j)) = f
  have hT : txW x = txT f := by unfold txW; rw [hf]
  have hx : hv (lets f 64) 0#256 = x := by rw [← hf]; exact hv_word x
  have hl : (lets f 64).length = 64 := by simp [lets]
  obtain ⟨r, hr, h0, hlen, hmem, hval⟩ : ∃ r : List UInt8, (txT f).data.toList = 48 :: 120 :: r ∧ r ≠ [] ∧ r.length ≤ 64 ∧ (∀ c ∈ r, 0 ≤ hexI c.toNat) ∧ hv r 0#256 = x := by
    rw [txT_eq]
    by_cases hz : (⟨(Lib.trimLeftB (lets f 64) 48).toArray⟩ : ByteArray) = ⟨#[]⟩
    · rw [if_pos hz]
      refine ⟨[48], rfl, by simp, by simp, ?_, ?_⟩
      · intro c hc; simp at hc; subst hc; decide
      · have h1 := (ba_nil _).1 hz
        have h2 := hv_trim (lets f 64)
        rw [h1, hx] at h2
        rw [← h2]; rfl
    · rw [if_neg hz]
      refine ⟨Lib.trimLeftB (lets f 64) 48, ?_, fun e => hz ((ba_nil _).2 e), ?_, ?_, ?_⟩
      · rw [ByteArray.data_append]; simp
      · have := (List.dropWhile_sublist (fun c : UInt8 => c == 48) (l := lets f 64)).length_le
        unfold Lib.trimLeftB; omega
      · intro c hc
        exact mem_lets ((List.dropWhile_sublist (fun c : UInt8 => c == 48) (l := lets f 64)).mem hc)
      · rw [hv_trim, hx]
  have hok : psOk r r.length := fun j hj => by
    rw [List.getD, List.getElem?_eq_getElem hj]
    exact hmem _ (List.getElem_mem hj)
  have hp : psW r r.length = x := by rw [psW_all, hval]
  rw [parse_text (by rw [hT]; exact hr) h0 hlen hok, hp, if_pos rfl]
theorem wL_lq (x : BitVec 256) : wL (lq x) = x := by
  have key : ∀ q, BitVec.ofNat 64 (lq x q) = limb x q := fun q => by
    unfold lq limb
    apply BitVec.eq_of_toNat_eq
    simp only [BitVec.toNat_ofNat, Nat.mod_mod]
  refine Eq.trans ?_ (re_eq x)
  unfold wL re
  rw [key, key, key, key]
/-- A word's bytes say that word. -/
theorem read_bytes (x : BitVec 256) (xs : List Nat) (h : xs = (List.range 32).map fun i => byteAt (lq x) (31 - i)) : readS xs = (x, 0) := by
  have hl : xs.length = 32 := by rw [h]; simp
  unfold readS
  rw [if_pos (by omega)]
  congr 1
  have e : ob (fR xs xs.length) = fun q => if q < 4 then lq x q else ob (fR xs xs.length) q := by
    funext q
    by_cases hq : q < 4
    · rw [if_pos hq, ← ob_bytes (lq_lt x q)]
      refine ob_congr fun j hj => ?_
      unfold fR
      rw [if_pos ⟨by omega, by omega⟩, hl, h]
      rw [List.getD, List.getElem?_map, List.getElem?_range (by omega)]
      simp only [Option.map_some, Option.getD_some]
      congr 1
      omega
    · rw [if_neg hq]
  have e2 : wL (ob (fR xs xs.length)) = wL (lq x) := by
    rw [e]; rfl
  rw [e2, wL_lq]
end

section
def ctrOf : CtrF
  | [x], _ => match asN x with
    | some x => some (wA (BitVec.ofNat 256 x.toNat), [])
    | none => match asI .u64 x with
      | some n => some (wA (BitVec.ofInt 256 n), [decide (0 ≤ n ∧ n < 18446744073709551616)])
      | none => none
  | _, _ => none
theorem ctrOf_ok {R : Rws} {f : FuncId} (hen : Enters Tryd.prog f) (h : ∀ (n : Nat) w, n < 18446744073709551616 → Calls Tryd.prog f #[.int .u64 (n : Int)] w fun e w' => e = .returned (W (BitVec.ofNat 256 n)) ∧ Below w.heap.size w w') : Good Tryd.prog R f ctrOf := by
  refine ⟨hen, fun args H v cs hv hcs => ?_⟩
  unfold ctrOf at hv
  split at hv
  · split at hv
    · rename_i x hx
      cases hv
      refine ⟨_, told_wA _, fun Hr Args ha _ _ w _ => ?_⟩
      cases ha with | cons a1 ha =>
      cases ha
      rw [asN_rel hx a1]
      exact h _ w x.isLt
    · split at hv
      · rename_i n hn
        cases hv
        have h1 := of_decide_eq_true (hcs _ (List.mem_cons_self ..))
        refine ⟨_, told_wA _, fun Hr Args ha _ _ w _ => ?_⟩
        cases ha with | cons a1 ha =>
        cases ha
        rw [asI_rel hn a1]
        obtain ⟨m, rfl⟩ := Int.eq_ofNat_of_zero_le h1.1
        rw [BitVec.ofInt_natCast]
        exact h m w (by omega)
      · cases hv
  · cases hv
def ctrParse : CtrF
  | [x], _ => match asS x with
    | some s => some (.tuple [wA (parseS s).1, .int .i64 false ((parseS s).2 : Nat)], [decide (s.size ≤ 1000)])
    | none => none
  | _, _ => none
theorem ctrParse_ok {R : Rws} : Good Tryd.prog R 18 ctrParse := by
  refine ⟨enters_of Tryd.func18 (by kernel_rfl) rfl, fun args H v cs hv hcs => ?_⟩
  unfold ctrParse at hv
  split at hv
  · split at hv
    · rename_i s hs
      cases hv
      have hm := of_decide_eq_true (hcs _ (List.mem_cons_self ..))
      refine ⟨_, told_WI _ _, fun Hr Args ha hB hA w hO => ?_⟩
      cases ha with | cons a1 ha =>
      cases ha
      rw [asS_rel hs a1]
      exact refParse_any s hm w
    · cases hv
  · cases hv
noncomputable def tabL (R : Rws) : List (Nat × CtrF) := [(20, ctrOf),
  (9, ctrAdd R),
  (14, ctrRead R),
  (16, ctrRead R),
  (18, ctrParse),
  (21, ctrTT asW asW (fun (x : BitVec 256) (y : BitVec 256) => wA (x - y))),
  (22, ctrTT asW asW (fun (x : BitVec 256) (y : BitVec 256) => wA (x * y))),
  (23, ctrTT asW asW (fun (x : BitVec 256) (y : BitVec 256) => .int .i64 false (ordW x y))),
  (12, ctrT asW (fun (x : BitVec 256) => .str (txW x))),
  (13, ctrT asW (fun (x : BitVec 256) => .str (txW x))),
  (15, ctrT asS (fun (x : ByteArray) => .tuple [wA ((parseS x).1), .int .i64 false (((parseS x).2 : Nat))])),
  (8, ctrTT asW asW (fun (x : BitVec 256) (y : BitVec 256) => wA (x + y))),
  (10, ctrT asW (fun (x : BitVec 256) => .agg [.int .u8 false ((byteAt (lq x) (31 - 0) : Nat) : Int), .int .u8 false ((byteAt (lq x) (31 - 1) : Nat) : Int), .int .u8 false ((byteAt (lq x) (31 - 2) : Nat) : Int), .int .u8 false ((byteAt (lq x) (31 - 3) : Nat) : Int), .int .u8 false ((byteAt (lq x) (31 - 4) : Nat) : Int), .int .u8 false ((byteAt (lq x) (31 - 5) : Nat) : Int), .int .u8 false ((byteAt (lq x) (31 - 6) : Nat) : Int), .int .u8 false ((byteAt (lq x) (31 - 7) : Nat) : Int), .int .u8 false ((byteAt (lq x) (31 - 8) : Nat) : Int), .int .u8 false ((byteAt (lq x) (31 - 9) : Nat) : Int), .int .u8 false ((byteAt (lq x) (31 - 10) : Nat) : Int), .int .u8 false ((byteAt (lq x) (31 - 11) : Nat) : Int), .int .u8 false ((byteAt (lq x) (31 - 12) : Nat) : Int), .int .u8 false ((byteAt (lq x) (31 - 13) : Nat) : Int), .int .u8 false ((byteAt (lq x) (31 - 14) : Nat) : Int), .int .u8 false ((byteAt (lq x) (31 - 15) : Nat) : Int), .int .u8 false ((byteAt (lq x) (31 - 16) : Nat) : Int), .int .u8 false ((byteAt (lq x) (31 - 17) : Nat) : Int), .int .u8 false ((byteAt (lq x) (31 - 18) : Nat) : Int), .int .u8 false ((byteAt (lq x) (31 - 19) : Nat) : Int), .int .u8 false ((byteAt (lq x) (31 - 20) : Nat) : Int), .int .u8 false ((byteAt (lq x) (31 - 21) : Nat) : Int), .int .u8 false ((byteAt (lq x) (31 - 22) : Nat) : Int), .int .u8 false ((byteAt (lq x) (31 - 23) : Nat) : Int), .int .u8 false ((byteAt (lq x) (31 - 24) : Nat) : Int), .int .u8 false ((byteAt (lq x) (31 - 25) : Nat) : Int), .int .u8 false ((byteAt (lq x) (31 - 26) : Nat) : Int), .int .u8 false ((byteAt (lq x) (31 - 27) : Nat) : Int), .int .u8 false ((byteAt (lq x) (31 - 28) : Nat) : Int), .int .u8 false ((byteAt (lq x) (31 - 29) : Nat) : Int), .int .u8 false ((byteAt (lq x) (31 - 30) : Nat) : Int), .int .u8 false ((byteAt (lq x) (31 - 31) : Nat) : Int)]))]
theorem tabL_ok {R : Rws} (hR : RwOK R) : ∀ p ∈ tabL R, Good Tryd.prog R p.1 p.2 := by
  have h0 : Good Tryd.prog R 20 ( ctrOf) := ctrOf_ok (enters_of Tryd.func20 (by kernel_rfl) rfl) (fun n w h => wordOfW n h w)
  have h1 : Good Tryd.prog R 9 ( ctrAdd R) := ctrAdd_ok hR
  have h2 : Good Tryd.prog R 14 ( ctrRead R) := ctrRead_ok hR (enters_of Tryd.func14 (by kernel_rfl) rfl) wordRead_any'
  have h3 : Good Tryd.prog R 16 ( ctrRead R) := ctrRead_ok hR (enters_of Tryd.func16 (by kernel_rfl) rfl) refRead_any'
  have h4 : Good Tryd.prog R 18 ( ctrParse) := ctrParse_ok
  have h5 : Good Tryd.prog R 21 ( ctrTT asW asW (fun (x : BitVec 256) (y : BitVec 256) => wA (x - y))) := ctrTT_ok (ea := W) (eb := W) (V := fun (x : BitVec 256) (y : BitVec 256) => W (x - y)) (fun h => asW_rel h) (fun h => asW_rel h) (enters_of Tryd.func21 (by kernel_rfl) rfl) (fun _ _ => told_wA _) (fun x y w => subW_any x y w)
  have h6 : Good Tryd.prog R 22 ( ctrTT asW asW (fun (x : BitVec 256) (y : BitVec 256) => wA (x * y))) := ctrTT_ok (ea := W) (eb := W) (V := fun (x : BitVec 256) (y : BitVec 256) => W (x * y)) (fun h => asW_rel h) (fun h => asW_rel h) (enters_of Tryd.func22 (by kernel_rfl) rfl) (fun _ _ => told_wA _) (fun x y w => wordMul_any x y w)
  have h7 : Good Tryd.prog R 23 ( ctrTT asW asW (fun (x : BitVec 256) (y : BitVec 256) => .int .i64 false (ordW x y))) := ctrTT_ok (ea := W) (eb := W) (V := fun (x : BitVec 256) (y : BitVec 256) => .int .i64 (ordW x y)) (fun h => asW_rel h) (fun h => asW_rel h) (enters_of Tryd.func23 (by kernel_rfl) rfl) (fun _ _ => rfl) (fun x y w => orderW x y w)
  have h8 : Good Tryd.prog R 12 ( ctrT asW (fun (x : BitVec 256) => .str (txW x))) := ctrT_ok (enc := W) (V := fun (x : BitVec 256) => .string (txW x)) (fun h => asW_rel h) (enters_of Tryd.func12 (by kernel_rfl) rfl) (fun _ => rfl) (fun x w => wordTextW x w)
  have h9 : Good Tryd.prog R 13 ( ctrT asW (fun (x : BitVec 256) => .str (txW x))) := ctrT_ok (enc := W) (V := fun (x : BitVec 256) => .string (txW x)) (fun h => asW_rel h) (enters_of Tryd.func13 (by kernel_rfl) rfl) (fun _ => rfl) (fun x w => refTextW x w)
  have h10 : Good Tryd.prog R 15 ( ctrT asS (fun (x : ByteArray) => .tuple [wA ((parseS x).1), .int .i64 false (((parseS x).2 : Nat))])) := ctrT_ok (enc := Value.string) (V := fun (x : ByteArray) => .tuple #[W ((parseS x).1), .int .i64 (((parseS x).2 : Nat))]) (fun h => asS_rel h) (enters_of Tryd.func15 (by kernel_rfl) rfl) (fun _ => told_WI _ _) (fun x w => wordParse_any x w)
  have h11 : Good Tryd.prog R 8 ( ctrTT asW asW (fun (x : BitVec 256) (y : BitVec 256) => wA (x + y))) := ctrTT_ok (ea := W) (eb := W) (V := fun (x : BitVec 256) (y : BitVec 256) => W (x + y)) (fun h => asW_rel h) (fun h => asW_rel h) (enters_of Tryd.func8 (by kernel_rfl) rfl) (fun _ _ => told_wA _) (fun x y w => refAddW x y w)
  have h12 : Good Tryd.prog R 10 ( ctrT asW (fun (x : BitVec 256) => .agg [.int .u8 false ((byteAt (lq x) (31 - 0) : Nat) : Int), .int .u8 false ((byteAt (lq x) (31 - 1) : Nat) : Int), .int .u8 false ((byteAt (lq x) (31 - 2) : Nat) : Int), .int .u8 false ((byteAt (lq x) (31 - 3) : Nat) : Int), .int .u8 false ((byteAt (lq x) (31 - 4) : Nat) : Int), .int .u8 false ((byteAt (lq x) (31 - 5) : Nat) : Int), .int .u8 false ((byteAt (lq x) (31 - 6) : Nat) : Int), .int .u8 false ((byteAt (lq x) (31 - 7) : Nat) : Int), .int .u8 false ((byteAt (lq x) (31 - 8) : Nat) : Int), .int .u8 false ((byteAt (lq x) (31 - 9) : Nat) : Int), .int .u8 false ((byteAt (lq x) (31 - 10) : Nat) : Int), .int .u8 false ((byteAt (lq x) (31 - 11) : Nat) : Int), .int .u8 false ((byteAt (lq x) (31 - 12) : Nat) : Int), .int .u8 false ((byteAt (lq x) (31 - 13) : Nat) : Int), .int .u8 false ((byteAt (lq x) (31 - 14) : Nat) : Int), .int .u8 false ((byteAt (lq x) (31 - 15) : Nat) : Int), .int .u8 false ((byteAt (lq x) (31 - 16) : Nat) : Int), .int .u8 false ((byteAt (lq x) (31 - 17) : Nat) : Int), .int .u8 false ((byteAt (lq x) (31 - 18) : Nat) : Int), .int .u8 false ((byteAt (lq x) (31 - 19) : Nat) : Int), .int .u8 false ((byteAt (lq x) (31 - 20) : Nat) : Int), .int .u8 false ((byteAt (lq x) (31 - 21) : Nat) : Int), .int .u8 false ((byteAt (lq x) (31 - 22) : Nat) : Int), .int .u8 false ((byteAt (lq x) (31 - 23) : Nat) : Int), .int .u8 false ((byteAt (lq x) (31 - 24) : Nat) : Int), .int .u8 false ((byteAt (lq x) (31 - 25) : Nat) : Int), .int .u8 false ((byteAt (lq x) (31 - 26) : Nat) : Int), .int .u8 false ((byteAt (lq x) (31 - 27) : Nat) : Int), .int .u8 false ((byteAt (lq x) (31 - 28) : Nat) : Int), .int .u8 false ((byteAt (lq x) (31 - 29) : Nat) : Int), .int .u8 false ((byteAt (lq x) (31 - 30) : Nat) : Int), .int .u8 false ((byteAt (lq x) (31 - 31) : Nat) : Int)])) := ctrT_ok (enc := W) (V := fun (x : BitVec 256) => .agg #[.int .u8 ((byteAt (lq x) (31 - 0) : Nat) : Int), .int .u8 ((byteAt (lq x) (31 - 1) : Nat) : Int), .int .u8 ((byteAt (lq x) (31 - 2) : Nat) : Int), .int .u8 ((byteAt (lq x) (31 - 3) : Nat) : Int), .int .u8 ((byteAt (lq x) (31 - 4) : Nat) : Int), .int .u8 ((byteAt (lq x) (31 - 5) : Nat) : Int), .int .u8 ((byteAt (lq x) (31 - 6) : Nat) : Int), .int .u8 ((byteAt (lq x) (31 - 7) : Nat) : Int), .int .u8 ((byteAt (lq x) (31 - 8) : Nat) : Int), .int .u8 ((byteAt (lq x) (31 - 9) : Nat) : Int), .int .u8 ((byteAt (lq x) (31 - 10) : Nat) : Int), .int .u8 ((byteAt (lq x) (31 - 11) : Nat) : Int), .int .u8 ((byteAt (lq x) (31 - 12) : Nat) : Int), .int .u8 ((byteAt (lq x) (31 - 13) : Nat) : Int), .int .u8 ((byteAt (lq x) (31 - 14) : Nat) : Int), .int .u8 ((byteAt (lq x) (31 - 15) : Nat) : Int), .int .u8 ((byteAt (lq x) (31 - 16) : Nat) : Int), .int .u8 ((byteAt (lq x) (31 - 17) : Nat) : Int), .int .u8 ((byteAt (lq x) (31 - 18) : Nat) : Int), .int .u8 ((byteAt (lq x) (31 - 19) : Nat) : Int), .int .u8 ((byteAt (lq x) (31 - 20) : Nat) : Int), .int .u8 ((byteAt (lq x) (31 - 21) : Nat) : Int), .int .u8 ((byteAt (lq x) (31 - 22) : Nat) : Int), .int .u8 ((byteAt (lq x) (31 - 23) : Nat) : Int), .int .u8 ((byteAt (lq x) (31 - 24) : Nat) : Int), .int .u8 ((byteAt (lq x) (31 - 25) : Nat) : Int), .int .u8 ((byteAt (lq x) (31 - 26) : Nat) : Int), .int .u8 ((byteAt (lq x) (31 - 27) : Nat) : Int), .int .u8 ((byteAt (lq x) (31 - 28) : Nat) : Int), .int .u8 ((byteAt (lq x) (31 - 29) : Nat) : Int), .int .u8 ((byteAt (lq x) (31 - 30) : Nat) : Int), .int .u8 ((byteAt (lq x) (31 - 31) : Nat) : Int)]) (fun h => asW_rel h) (enters_of Tryd.func10 (by kernel_rfl) rfl) (fun _ => rfl) (fun x w => by rw [W_lq]; exact refWordBytes_any (lq x) w (lq_lt x))
  exact good_cons (p := (_, _)) h0 (good_cons (p := (_, _)) h1 (good_cons (p := (_, _)) h2 (good_cons (p := (_, _)) h3 (good_cons (p := (_, _)) h4 (good_cons (p := (_, _)) h5 (good_cons (p := (_, _)) h6 (good_cons (p := (_, _)) h7 (good_cons (p := (_, _)) h8 (good_cons (p := (_, _)) h9 (good_cons (p := (_, _)) h10 (good_cons (p := (_, _)) h11 (good_cons (p := (_, _)) h12 (good_nil)))))))))))))
noncomputable def tabM : List (Nat × CtmF) := [(11, ctmBytes 5)]
theorem tabM_ok {R : Rws} : ∀ p ∈ tabM, GoodM Tryd.prog R p.1 p.2 := goodM_cons (q := (_, _)) ctmBytes_ok goodM_nil
noncomputable def EW (R : Rws) : Env := mkEnvM R (tabL R) tabM
theorem EW_ok {R : Rws} (hR : RwOK R) : EnvOK (EW R) := mkEnvM_ok hR (tabL_ok hR) tabM_ok
end

section
def wkC : List (Bool × Bool) := List.replicate 12 (true, true)
theorem wkC_ok : AllE wkC := allE_cons rfl (allE_cons rfl (allE_cons rfl (allE_cons rfl (allE_cons rfl (allE_cons rfl (allE_cons rfl (allE_cons rfl (allE_cons rfl (allE_cons rfl (allE_cons rfl (allE_cons rfl (allE_nil))))))))))))
theorem works1_ev : Is (evCall (EW noRows) 60 7 [] ⟨[], [true, true, true, true, true, true, true, true, true], allW⟩ (fun v _ => v = .bool false true)) := ev_eq wkC (.bool false true : AV) (by kernel_rfl) wkC_ok
theorem works1_any (w : World) : Calls Tryd.prog 7 #[] w fun e w' => e = .returned (.bool true) ∧ Below w.heap.size w w' := ev_callsI (EW_ok rwOK_no) 60 works1_ev rfl .nil rfl w
noncomputable def EL (R : Rws) : Env := mkEnvM R ((7, ctr0 (.bool false true)) :: tabL R) tabM
theorem EL_ok {R : Rws} (hR : RwOK R) : EnvOK (EL R) := mkEnvM_ok hR (good_cons (p := (_, _)) (ctr0_ok (enters_of Tryd.func7 (by kernel_rfl) rfl) (V := .bool true) rfl works1_any) (tabL_ok hR)) tabM_ok
end

section
theorem limbs_same {x y : BitVec 256} (h : x = y) : (false != (limb x 0 == limb y 0 && (limb x 1 == limb y 1 && (limb x 2 == limb y 2 && (limb x 3 == limb y 3 && true))))) = true := by subst h; simp
theorem texts_long (s : ByteArray) (h : 100 < s.size) : Is (evCall (EL noRows) 60 5 [.str s] ⟨[], [true], allW⟩ (fun v _ => v = .bool false true)) := ev_eq [(decide ((s.size : Int) > 100), true)] (.bool false true : AV) (by kernel_rfl) (allE_cons (decide_eq_true (by omega)) (allE_nil))
theorem texts_ev (s : ByteArray) (h : ¬ 100 < s.size) : Is (evCall (EL noRows) 60 5 [.str s] ⟨[], [false, true, true], allW⟩ (fun v _ => v = .bool false true)) := ev_eq [(decide ((s.size : Int) > 100), false), (decide (s.size ≤ 1000), true), ((false != (limb ((parseS s).1) 0 == limb ((parseS s).1) 0 && (limb ((parseS s).1) 1 == limb ((parseS s).1) 1 && (limb ((parseS s).1) 2 == limb ((parseS s).1) 2 && (limb ((parseS s).1) 3 == limb ((parseS s).1) 3 && true))))), true), (((((parseS s).2 : Nat) : Int) == (((parseS s).2 : Nat) : Int)), true)] (.bool false true : AV) (by kernel_rfl) (allE_cons (decide_eq_false (by omega)) (allE_cons (decide_eq_true (by omega)) (allE_cons (limbs_same rfl) (allE_cons (beq_self_eq_true _) (allE_nil)))))
theorem texts_any (s : ByteArray) (w : World) : Calls Tryd.prog 5 #[.string s] w fun e w' => e = .returned (.bool true) ∧ Below w.heap.size w w' := by
  by_cases h : 100 < s.size
  · exact ev_callsI (EL_ok rwOK_no) 60 (texts_long s h) rfl (.cons .str .nil) rfl w
  · exact ev_callsI (EL_ok rwOK_no) 60 (texts_ev s h) rfl (.cons .str .nil) rfl w
/-- A row of bytes. -/
def rowN (A : Option Addr) (xs : List Nat) : RowI := ⟨A, xs.length, 1, fun i => [.int .u8 false ((xs.getD i.toNat 0 : Nat) : Int)], fun i => [.int .u8 ((xs.getD i 0 : Nat) : Int)], []⟩
theorem rowN_ok {A : Option Addr} {xs : List Nat} (hA : 0 < xs.length → ∃ b off, A = some ⟨b, off, none⟩) : RwOK (rows1 (rowN A xs)) where
  vals j r h i hi := by obtain ⟨_, rfl⟩ := rows1_inv h; simp [rowN, AV.vals?, AV.val?]
  len j r h i hi := by obtain ⟨_, rfl⟩ := rows1_inv h; rfl
  one j r h i hi v hv := by
    obtain ⟨_, rfl⟩ := rows1_inv h
    simp only [rowN, List.mem_cons, List.not_mem_nil, or_false] at hv
    subst hv; rfl
  addr j r h h0 := by obtain ⟨_, rfl⟩ := rows1_inv h; exact hA h0
  sub j r h a j' hs := by obtain ⟨_, rfl⟩ := rows1_inv h; cases hs
theorem rowN_rd {A : Option Addr} {xs : List Nat} {w : World} (h : SlAt w A (xs.map fun x : Nat => Value.int .u8 (x : Int))) : Rd (rows1 (rowN A xs)) [] w := by
  intro j r hj b off ha h0
  obtain ⟨_, rfl⟩ := rows1_inv hj
  have h0' : 0 < xs.length := h0
  rcases h with h | ⟨b', off', h1, h2, h3⟩
  · simp at h; subst h; simp at h0'
  · have ha' : A = some ⟨b, off, none⟩ := ha
    rw [ha'] at h1
    cases h1
    refine ⟨by simp, h2, fun i hi q u hu => ?_⟩
    have hi' : i < xs.length := hi
    have hu' : ([Value.int .u8 ((xs.getD i 0 : Nat) : Int)] : List Value)[q]? = some u := hu
    cases q with
    | zero =>
      simp only [List.getElem?_cons_zero, Option.some.injEq] at hu'
      subst hu'
      show w.cell? ⟨b, off + i * 1 + 0, none⟩ = _
      rw [Nat.mul_one, Nat.add_zero]
      refine h3 i _ ?_
      simp [List.getD, List.getElem?_eq_getElem hi']
    | succ q => simp at hu'
theorem rowN_bytes {A : Option Addr} {xs : List Nat} (h : ∀ x ∈ xs, x < 256) : bytesB (fun i => (rowN A xs).F (i : Int)) xs.length = true := by
  unfold bytesB
  rw [List.all_eq_true]
  intro i hi
  have hi' : i < xs.length := List.mem_range.1 hi
  have : xs.getD i 0 < 256 := by rw [List.getD, List.getElem?_eq_getElem hi']; exact h _ (List.getElem_mem hi')
  show decide (0 ≤ (((xs.getD (i : Int).toNat 0) : Nat) : Int) ∧ (((xs.getD (i : Int).toNat 0) : Nat) : Int) < 256) = true
  rw [Int.toNat_natCast]
  exact decide_eq_true (by omega)
theorem rel_rowN {A : Option Addr} {xs : List Nat} {c : Nat} {ρ : Nums} (hc : xs.length ≤ c) : Rel (rows1 (rowN A xs)) ρ (.rsl 0 xs.length c) (.slice A xs.length c) := Rel.rsl (r := rowN A xs) rfl hc
def gB32 (a : BitVec 256) : Nat → List AV := fun i => [AV.int IntKind.u8 false ((byteAt (lq a) (31 - (0 + i)) : Nat) : Int)]
theorem gB32_bytes (a : BitVec 256) : bytesB (gB32 a) 32 = true := by
  unfold bytesB
  rw [List.all_eq_true]
  intro i hi
  have : byteAt (lq a) (31 - (0 + i)) < 256 := Nat.mod_lt _ (by decide)
  show decide (0 ≤ ((byteAt (lq a) (31 - (0 + i)) : Nat) : Int) ∧ ((byteAt (lq a) (31 - (0 + i)) : Nat) : Int) < 256) = true
  exact decide_eq_true (by omega)
theorem gB32_read (a : BitVec 256) : readS (bytesOf (gB32 a) 32) = (a, 0) := by
  refine read_bytes a _ ?_
  unfold bytesOf
  refine List.map_congr_left fun i _ => ?_
  show ((byteAt (lq a) (31 - (0 + i)) : Nat) : Int).toNat = _
  rw [Int.toNat_natCast, Nat.zero_add]
theorem bytes_long (A : Option Addr) (xs : List Nat) (c : Nat) (a : BitVec 256) (h : 60 < xs.length) : Is (evCall (EL (rows1 (rowN A xs))) 60 4 [wA a, .rsl 0 xs.length c] ⟨[], [true], allW⟩ (fun v _ => v = .bool false true)) := ev_eq [(decide ((xs.length : Int) > 60), true)] (.bool false true : AV) (by kernel_rfl) (allE_cons (decide_eq_true (by omega)) (allE_nil))
set_option maxHeartbeats 4000000 in
theorem bytes_ev (A : Option Addr) (xs : List Nat) (c : Nat) (a : BitVec 256) (h : ¬ 60 < xs.length) (hb : ∀ x ∈ xs, x < 256) : Is (evCall (EL (rows1 (rowN A xs))) 60 4 [wA a, .rsl 0 xs.length c] ⟨[], [false, false, false, false, true, true, true, true, true], allW⟩ (fun v _ => v = .bool false true)) := ev_eq [(decide ((xs.length : Int) > 60), false), (false, false), (true, true), (true, true), (true, true), ((true != decide (strRow (gB32 (re a)) 32 = strRow (gB32 (re a)) 32)), false), ((true != decide (txW (re a) = txW (re a))), false), (bytesB (gB32 (re a)) 32, true), (true, true), (bytesB (fun i => (rowN A xs).F (i : Int)) xs.length, true), (bytesB (fun i => (rowN A xs).F (i : Int)) xs.length, true), ((false != (limb ((readS (bytesOf (gB32 (re a)) 32)).1) 0 == limb (a) 0 && (limb ((readS (bytesOf (gB32 (re a)) 32)).1) 1 == limb (a) 1 && (limb ((readS (bytesOf (gB32 (re a)) 32)).1) 2 == limb (a) 2 && (limb ((readS (bytesOf (gB32 (re a)) 32)).1) 3 == limb (a) 3 && true))))), true), ((false != (limb ((parseS (txW (re a))).1) 0 == limb (a) 0 && (limb ((parseS (txW (re a))).1) 1 == limb (a) 1 && (limb ((parseS (txW (re a))).1) 2 == limb (a) 2 && (limb ((parseS (txW (re a))).1) 3 == limb (a) 3 && true))))), true), ((IntKind.wrap IntKind.i64 ((((readS (bytesOf (gB32 (re a)) 32)).2 : Nat) : Int) + (((parseS (txW (re a))).2 : Nat) : Int)) == 0), true), ((false != (limb ((readS (bytesOf (fun i => (rowN A xs).F (i : Int)) xs.length)).1) 0 == limb ((readS (bytesOf (fun i => (rowN A xs).F (i : Int)) xs.length)).1) 0 && (limb ((readS (bytesOf (fun i => (rowN A xs).F (i : Int)) xs.length)).1) 1 == limb ((readS (bytesOf (fun i => (rowN A xs).F (i : Int)) xs.length)).1) 1 && (limb ((readS (bytesOf (fun i => (rowN A xs).F (i : Int)) xs.length)).1) 2 == limb ((readS (bytesOf (fun i => (rowN A xs).F (i : Int)) xs.length)).1) 2 && (limb ((readS (bytesOf (fun i => (rowN A xs).F (i : Int)) xs.length)).1) 3 == limb ((readS (bytesOf (fun i => (rowN A xs).F (i : Int)) xs.length)).1) 3 && true))))), true), (((((readS (bytesOf (fun i => (rowN A xs).F (i : Int)) xs.length)).2 : Nat) : Int) == (((readS (bytesOf (fun i => (rowN A xs).F (i : Int)) xs.length)).2 : Nat) : Int)), true)] (.bool false true : AV) (by kernel_rfl) (allE_cons (decide_eq_false (by omega)) (allE_cons (rfl) (allE_cons (rfl) (allE_cons (rfl) (allE_cons (rfl) (allE_cons (by simp) (allE_cons (by simp) (allE_cons (gB32_bytes _) (allE_cons (rfl) (allE_cons (rowN_bytes hb) (allE_cons (rowN_bytes hb) (allE_cons (limbs_same (by rw [gB32_read, re_eq])) (allE_cons (limbs_same (by rw [parse_txW, re_eq])) (allE_cons (by rw [gB32_read, parse_txW]; rfl) (allE_cons (limbs_same rfl) (allE_cons (beq_self_eq_true _) (allE_nil)))))))))))))))))
theorem bytes_any (A : Option Addr) (xs : List Nat) (c : Nat) (a : BitVec 256) (w : World) (hS : SlAt w A (xs.map fun x : Nat => Value.int .u8 (x : Int))) (hc : xs.length ≤ c) (hb : ∀ x ∈ xs, x < 256) : Calls Tryd.prog 4 #[W a, .slice A xs.length c] w fun e w' => e = .returned (.bool true) ∧ Below w.heap.size w w' := by
  have hR : RwOK (rows1 (rowN A xs)) := rowN_ok fun h0 => by
    rcases hS with h | ⟨b, off, h1, _⟩
    · simp at h; subst h; simp at h0
    · exact ⟨b, off, h1⟩
  by_cases h : 60 < xs.length
  · exact ev_callsR (EL_ok hR) 60 (bytes_long A xs c a h) rfl (.cons (rel_wA _ a) (.cons (rel_rowN hc) .nil)) w (rowN_rd hS)
  · exact ev_callsR (EL_ok hR) 60 (bytes_ev A xs c a h hb) rfl (.cons (rel_wA _ a) (.cons (rel_rowN hc) .nil)) w (rowN_rd hS)
end

section
theorem rowW_rw {A : Option Addr} {xs : List (BitVec 256)} (hA : 0 < xs.length → ∃ b off, A = some ⟨b, off, none⟩) : RwOK (rows1 (rowW A xs)) := by
  refine ⟨fun j r hj i hi => ?_, fun j r hj i hi => ?_, fun j r hj i hi v hv => ?_, fun j r hj h0 => ?_, fun j r hj a j' ha => ?_⟩
  · obtain ⟨_, rfl⟩ := rows1_inv hj
    have := vals_wC (xs.getD i 0#256)
    simpa [rowW] using this
  · obtain ⟨_, rfl⟩ := rows1_inv hj; rfl
  · obtain ⟨_, rfl⟩ := rows1_inv hj
    simp only [rowW, List.mem_cons, List.not_mem_nil, or_false] at hv
    rcases hv with rfl | rfl | rfl | rfl <;> rfl
  · obtain ⟨_, rfl⟩ := rows1_inv hj; exact hA h0
  · obtain ⟨_, rfl⟩ := rows1_inv hj; cases ha
def wordsC (xs : List (BitVec 256)) : List Value := xs.flatMap fun x => [.int .u64 (L x 0), .int .u64 (L x 1), .int .u64 (L x 2), .int .u64 (L x 3)]
theorem rowW_rd {A : Option Addr} {xs : List (BitVec 256)} {w : World} (hS : SlAt w A (wordsC xs)) : (0 < xs.length → ∃ b off, A = some ⟨b, off, none⟩) ∧ Rd (rows1 (rowW A xs)) [] w := by
  rcases hS with h | ⟨b, off, rfl, hb, hc⟩
  · have : xs = [] := by cases xs with
      | nil => rfl
      | cons x r => simp [wordsC] at h
    subst this
    exact ⟨fun h => absurd h (by simp), fun j r hj b off hA h0 => by obtain ⟨_, rfl⟩ := rows1_inv hj; exact absurd h0 (by simp [rowW])⟩
  · refine ⟨fun _ => ⟨b, off, rfl⟩, fun j r hj b' off' hA h0 => ?_⟩
    obtain ⟨_, rfl⟩ := rows1_inv hj
    have hA : some (⟨b, off, none⟩ : Addr) = some ⟨b', off', none⟩ := hA
    cases hA
    refine ⟨by simp, hb, fun i hi q u hu => ?_⟩
    have hi : i < xs.length := hi
    have hq : q < 4 := (List.getElem?_eq_some_iff.1 hu).1
    have := flat_at (f := fun x : BitVec 256 => [Value.int .u64 (L x 0), .int .u64 (L x 1), .int .u64 (L x 2), .int .u64 (L x 3)]) (n := 4) (fun _ => rfl) xs i (xs.getD i 0#256) (by rw [List.getD_eq_getElem?_getD, List.getElem?_eq_getElem hi]; rfl) q hq
    have h2 := hc (i * 4 + q) u (this.trans hu)
    rw [Nat.add_assoc]
    exact h2
theorem wrap_k {k : Nat} (h : k < 1000000) : IntKind.wrap IntKind.i64 ((k : Int) + 1) = ((k + 1 : Nat) : Int) := by rw [IntWalk.i64_in _ (by omega)]; omega
theorem sumW_step {xs : List (BitVec 256)} {k : Nat} (h : k < xs.length) : sumW xs (k + 1) = sumW xs k + xs.getD k 0#256 := by
  rw [sumW_succ (x := xs[k]) (List.getElem?_eq_getElem h), List.getD, List.getElem?_eq_getElem h]; rfl
theorem wordsOf_row (A : Option Addr) (xs : List (BitVec 256)) : wordsOf (fun i => (rowW A xs).F (i : Int)) xs.length = xs := by
  unfold wordsOf
  apply List.ext_getElem?
  intro i
  rw [List.getElem?_map]
  rcases Nat.lt_or_ge i xs.length with hi | hi
  · rw [List.getElem?_range hi, Option.map_some, List.getElem?_eq_getElem hi]
    congr 1
    show (asW (wA (xs.getD (i : Int).toNat 0#256))).getD 0#256 = _
    rw [Int.toNat_natCast]
    show re (xs.getD i 0#256) = _
    rw [re_eq, List.getD, List.getElem?_eq_getElem hi]; rfl
  · rw [List.getElem?_eq_none (by simpa using hi), List.getElem?_eq_none hi]; rfl
theorem wordsB_row (A : Option Addr) (xs : List (BitVec 256)) : wordsB (fun i => (rowW A xs).F (i : Int)) xs.length = true := by
  unfold wordsB
  rw [List.all_eq_true]
  intro i hi
  rfl
end

section
theorem adds_p1 (A : Option Addr) (xs : List (BitVec 256)) (c : Nat) (h : AllE [(decide ((↑(RowI.n (rowW A xs)) : Int) > 50), false)]) : ∀ r, Is (evCs (EL (rows1 (rowW A xs))) 60 (takeSeq 3 (Tryd.f3.body.getD .skip)) ⟨pat (inLive 0 [.rsl 0 (RowI.n (rowW A xs)) c]) r 0 Tryd.f3.ntmps, ⟨[], [false], allW⟩⟩ (chK [(0, AV.rsl 0 (RowI.n (rowW A xs)) c), (2, AV.bool true false), (3, AV.ptr 0 0)] Tryd.f3.ntmps [AIt.cells [AV.int IntKind.u64 true 0, AV.int IntKind.u64 true 0, AV.int IntKind.u64 true 0, AV.int IntKind.u64 true 0] 26] [])) := fun r => ev_eq [(decide ((↑(RowI.n (rowW A xs)) : Int) > 50), false)] (chR [(0, AV.rsl 0 (RowI.n (rowW A xs)) c), (2, AV.bool true false), (3, AV.ptr 0 0)] Tryd.f3.ntmps [AIt.cells [AV.int IntKind.u64 true 0, AV.int IntKind.u64 true 0, AV.int IntKind.u64 true 0, AV.int IntKind.u64 true 0] 26] []) (by kernel_rfl) h
theorem adds_p2 (A : Option Addr) (xs : List (BitVec 256)) (c : Nat) : ∀ r, Is (evCs (EL (rows1 (rowW A xs))) 60 (takeSeq 1 (sL (dropSeq 3 (Tryd.f3.body.getD .skip)))) ⟨pat [(0, AV.rsl 0 (RowI.n (rowW A xs)) c), (2, AV.bool true false), (3, AV.ptr 0 0)] r 0 Tryd.f3.ntmps, ⟨[AIt.cells [AV.int IntKind.u64 true 0, AV.int IntKind.u64 true 0, AV.int IntKind.u64 true 0, AV.int IntKind.u64 true 0] 26], [], allW⟩⟩ (chK [(0, AV.rsl 0 (RowI.n (rowW A xs)) c), (2, AV.bool true false), (3, AV.ptr 0 0), (4, AV.int IntKind.i64 true 0)] Tryd.f3.ntmps [AIt.cells [AV.int IntKind.u64 true 0, AV.int IntKind.u64 true 0, AV.int IntKind.u64 true 0, AV.int IntKind.u64 true 0] 26] [])) := fun r => ev_eq [] (chR [(0, AV.rsl 0 (RowI.n (rowW A xs)) c), (2, AV.bool true false), (3, AV.ptr 0 0), (4, AV.int IntKind.i64 true 0)] Tryd.f3.ntmps [AIt.cells [AV.int IntKind.u64 true 0, AV.int IntKind.u64 true 0, AV.int IntKind.u64 true 0, AV.int IntKind.u64 true 0] 26] []) (by kernel_rfl) trivial
theorem adds_p3 (A : Option Addr) (xs : List (BitVec 256)) (c : Nat) (k : Nat) (h : AllE [(decide ((↑k : Int) < (↑(RowI.n (rowW A xs)) : Int)), true), (decide (0 ≤ (↑k : Int) ∧ (↑k : Int) < (↑(RowI.n (rowW A xs)) : Int)), true)]) : ∀ r, Is (evT (EL (rows1 (rowW A xs))) 60 (.code (lpB (bkB (dropSeq 1 (sL (dropSeq 3 (Tryd.f3.body.getD .skip))))))) ⟨pat [(0, AV.rsl 0 (RowI.n (rowW A xs)) c), (2, AV.bool true false), (3, AV.ptr 0 0), (4, AV.int IntKind.i64 false (((k : Nat)) : Int))] r 0 Tryd.f3.ntmps, ⟨[AIt.cells (wC (sumW xs k)) 26], [true], allW⟩⟩ (selK [0] .normal [(0, AV.rsl 0 (RowI.n (rowW A xs)) c), (2, AV.bool true false), (3, AV.ptr 0 0), (4, AV.int IntKind.i64 false (IntKind.wrap IntKind.i64 ((↑k : Int) + 1)))] Tryd.f3.ntmps [AIt.cells (wC (re (sumW xs k) + re (List.getD xs (Int.toNat (↑k : Int)) 0#256))) 26])) := fun r => ev_eq [(decide ((↑k : Int) < (↑(RowI.n (rowW A xs)) : Int)), true), (decide (0 ≤ (↑k : Int) ∧ (↑k : Int) < (↑(RowI.n (rowW A xs)) : Int)), true)] (selR [(0, AV.rsl 0 (RowI.n (rowW A xs)) c), (2, AV.bool true false), (3, AV.ptr 0 0), (4, AV.int IntKind.i64 false (IntKind.wrap IntKind.i64 ((↑k : Int) + 1)))] Tryd.f3.ntmps [AIt.cells (wC (re (sumW xs k) + re (List.getD xs (Int.toNat (↑k : Int)) 0#256))) 26]) (by kernel_rfl) h
theorem adds_p4 (A : Option Addr) (xs : List (BitVec 256)) (c : Nat) (k : Nat) (h : AllE [(decide ((↑k : Int) < (↑(RowI.n (rowW A xs)) : Int)), false)]) : ∀ r, Is (evT (EL (rows1 (rowW A xs))) 60 (.code (lpB (bkB (dropSeq 1 (sL (dropSeq 3 (Tryd.f3.body.getD .skip))))))) ⟨pat [(0, AV.rsl 0 (RowI.n (rowW A xs)) c), (2, AV.bool true false), (3, AV.ptr 0 0), (4, AV.int IntKind.i64 false (((k : Nat)) : Int))] r 0 Tryd.f3.ntmps, ⟨[AIt.cells (wC (sumW xs k)) 26], [false], allW⟩⟩ (selK [0] (.exit 0) [(0, AV.rsl 0 (RowI.n (rowW A xs)) c), (2, AV.bool true false), (3, AV.ptr 0 0), (4, AV.int IntKind.i64 false (↑k : Int))] Tryd.f3.ntmps [AIt.cells (wC (sumW xs k)) 26])) := fun r => ev_eq [(decide ((↑k : Int) < (↑(RowI.n (rowW A xs)) : Int)), false)] (selR [(0, AV.rsl 0 (RowI.n (rowW A xs)) c), (2, AV.bool true false), (3, AV.ptr 0 0), (4, AV.int IntKind.i64 false (↑k : Int))] Tryd.f3.ntmps [AIt.cells (wC (sumW xs k)) 26]) (by kernel_rfl) h
theorem adds_p5 (A : Option Addr) (xs : List (BitVec 256)) (c : Nat) (h : AllE [(decide (RowI.n (rowW A xs) ≤ 1000), true), (wordsB (fun i => RowI.F (rowW A xs) (↑i : Int)) (RowI.n (rowW A xs)), true), (false != (limb (List.foldl (fun x1 x2 => x1 + x2) 0 (wordsOf (fun i => RowI.F (rowW A xs) (↑i : Int)) (RowI.n (rowW A xs)))) 0 == limb (sumW xs (List.length xs)) 0 && (limb (List.foldl (fun x1 x2 => x1 + x2) 0 (wordsOf (fun i => RowI.F (rowW A xs) (↑i : Int)) (RowI.n (rowW A xs)))) 1 == limb (sumW xs (List.length xs)) 1 && (limb (List.foldl (fun x1 x2 => x1 + x2) 0 (wordsOf (fun i => RowI.F (rowW A xs) (↑i : Int)) (RowI.n (rowW A xs)))) 2 == limb (sumW xs (List.length xs)) 2 && (limb (List.foldl (fun x1 x2 => x1 + x2) 0 (wordsOf (fun i => RowI.F (rowW A xs) (↑i : Int)) (RowI.n (rowW A xs)))) 3 == limb (sumW xs (List.length xs)) 3 && true)))), true)]) : ∀ r, Is (evT (EL (rows1 (rowW A xs))) 60 (.code (sR (dropSeq 3 (Tryd.f3.body.getD .skip)))) ⟨pat [(0, AV.rsl 0 (RowI.n (rowW A xs)) c), (2, AV.bool true false), (3, AV.ptr 0 0), (4, AV.int IntKind.i64 false (((xs.length : Nat)) : Int))] r 0 Tryd.f3.ntmps, ⟨[AIt.cells (wC (sumW xs xs.length)) 26], [true], allW⟩⟩ (retK (EL (rows1 (rowW A xs))) Tryd.f3 (.bool false true))) := fun r => ev_eq [(decide (RowI.n (rowW A xs) ≤ 1000), true), (wordsB (fun i => RowI.F (rowW A xs) (↑i : Int)) (RowI.n (rowW A xs)), true), (false != (limb (List.foldl (fun x1 x2 => x1 + x2) 0 (wordsOf (fun i => RowI.F (rowW A xs) (↑i : Int)) (RowI.n (rowW A xs)))) 0 == limb (sumW xs (List.length xs)) 0 && (limb (List.foldl (fun x1 x2 => x1 + x2) 0 (wordsOf (fun i => RowI.F (rowW A xs) (↑i : Int)) (RowI.n (rowW A xs)))) 1 == limb (sumW xs (List.length xs)) 1 && (limb (List.foldl (fun x1 x2 => x1 + x2) 0 (wordsOf (fun i => RowI.F (rowW A xs) (↑i : Int)) (RowI.n (rowW A xs)))) 2 == limb (sumW xs (List.length xs)) 2 && (limb (List.foldl (fun x1 x2 => x1 + x2) 0 (wordsOf (fun i => RowI.F (rowW A xs) (↑i : Int)) (RowI.n (rowW A xs)))) 3 == limb (sumW xs (List.length xs)) 3 && true)))), true)] (some [(.bool false true : AV)]) (by kernel_rfl) h
set_option maxHeartbeats 4000000 in
theorem adds_any (A : Option Addr) (xs : List (BitVec 256)) (c : Nat) (hRw : RwOK (rows1 (rowW A xs))) (hc : xs.length ≤ c) (hn : ¬ 50 < xs.length) (w : World) (hd : Rd (rows1 (rowW A xs)) [] w) : Calls Tryd.prog 3 #[.slice A xs.length c] w fun e w' => e = .returned (.bool true) ∧ Below w.heap.size w w' := by
  refine ev_enter (E := (EL (rows1 (rowW A xs)))) (fn := Tryd.f3) (c := (Tryd.f3.body.getD .skip)) Tryd.func3 (by kernel_rfl) (args := [.rsl 0 (RowI.n (rowW A xs)) c]) (Args := [.slice A xs.length c]) (show 1 ≤ Tryd.f3.ntmps by decide) (.cons (.rsl (r := rowW A xs) rfl hc) .nil) hd (ds := [false]) (wr := allW) fun a0 hP0 hB0 => ?_
  refine ev_seqs (EL_ok hRw) 60 3 (adds_p1 A xs c (allE_cons (decide_eq_false (by show ¬ ((xs.length : Int) > 50); omega)) allE_nil)) hP0 hB0 fun a1 Hr1 w1 hP1 hB1 _ => ?_
  refine wp_parts (by kernel_rfl) ?_
  refine ev_seqs (EL_ok hRw) 60 1 (adds_p2 A xs c) hP1 hB1 fun a2 Hr2 w2 hP2 hB2 _ => ?_
  have hP3 := patSt_cells (l := 0) (cs' := (wC (sumW xs 0))) rfl rfl (by kernel_rfl) hP2
  have hB3 := bun_cells (l := 0) (cs' := (wC (sumW xs 0))) rfl hB2
  have hP4 := patSt_live (live' := [(0, AV.rsl 0 (RowI.n (rowW A xs)) c), (2, AV.bool true false), (3, AV.ptr 0 0), (4, AV.int IntKind.i64 false (0 : Int))]) (patSt_int (d := 4) (k := .i64) (l := true) (x := 0) (l' := false) hP3 (by kernel_rfl) (by decide) rfl) (looks_of (by rfl)) (by kernel_rfl)
  refine wp_bk (by kernel_rfl) ?_
  refine ev_loopG (by kernel_rfl) xs.length (.exit 0) rfl (fun k : Nat => [(0, AV.rsl 0 (RowI.n (rowW A xs)) c), (2, AV.bool true false), (3, AV.ptr 0 0), (4, AV.int IntKind.i64 false (((k : Nat)) : Int))]) (fun k : Nat => [AIt.cells (wC (sumW xs k)) 26]) (live' := [(0, AV.rsl 0 (RowI.n (rowW A xs)) c), (2, AV.bool true false), (3, AV.ptr 0 0), (4, AV.int IntKind.i64 false (((xs.length : Nat)) : Int))]) (H' := [AIt.cells (wC (sumW xs xs.length)) 26]) (fun k hk ac Hrk wk Q' hPx hBx hnx => ?_) (fun ac Hrk wk Q' hPx hBx hnx => ?_) hP4 hB3 fun a5 Hr5 w5 hP5 hB5 => ?_
  · skip
    have hkl : k < xs.length := hk
    have hw : IntKind.wrap IntKind.i64 ((k : Int) + 1) = ((k + 1 : Nat) : Int) := wrap_k (by omega)
    have eL : ([(0, AV.rsl 0 (RowI.n (rowW A xs)) c), (2, AV.bool true false), (3, AV.ptr 0 0), (4, AV.int IntKind.i64 false ((((k + 1) : Nat)) : Int))] : List (Nat × AV)) = [(0, AV.rsl 0 (RowI.n (rowW A xs)) c), (2, AV.bool true false), (3, AV.ptr 0 0), (4, AV.int IntKind.i64 false (IntKind.wrap IntKind.i64 ((↑k : Int) + 1)))] := by rw [hw]
    have eH : ([AIt.cells (wC (sumW xs (k + 1))) 26] : Mem) = [AIt.cells (wC (re (sumW xs k) + re (List.getD xs (Int.toNat (↑k : Int)) 0#256))) 26] := by rw [re_eq, re_eq, Int.toNat_natCast, sumW_step hkl]
    exact ev_codeS (EL_ok hRw) 60 [0] .normal (by kernel_rfl) (adds_p3 A xs c k (allE_cons (decide_eq_true (by first | omega | exact ⟨by omega, by show (k : Int) < (xs.length : Int); omega⟩ | (show (k : Int) < (xs.length : Int); omega))) (allE_cons (decide_eq_true (by first | omega | exact ⟨by omega, by show (k : Int) < (xs.length : Int); omega⟩ | (show (k : Int) < (xs.length : Int); omega))) allE_nil))) hPx hBx fun a' Hr' w' hP' hB' => hnx a' Hr' w' (by show PatSt _ _ [(0, AV.rsl 0 (RowI.n (rowW A xs)) c), (2, AV.bool true false), (3, AV.ptr 0 0), (4, AV.int IntKind.i64 false ((((k + 1) : Nat)) : Int))] _ ⟨[AIt.cells (wC (sumW xs (k + 1))) 26], [], allW⟩ a' Hr'; rw [eL, eH]; exact hP') (by show Bun _ _ _ _ [AIt.cells (wC (sumW xs (k + 1))) 26] _ _; rw [eH]; exact hB')
  · skip
    exact ev_codeS (EL_ok hRw) 60 [0] (.exit 0) (by kernel_rfl) (adds_p4 A xs c xs.length (allE_cons (decide_eq_false (by show ¬ ((xs.length : Nat) : Int) < (xs.length : Int); omega)) allE_nil)) hPx hBx hnx
  exact ev_rest (EL_ok hRw) 60 (adds_p5 A xs c (allE_cons (decide_eq_true (by show xs.length ≤ 1000; omega)) (allE_cons (wordsB_row A xs) (allE_cons (limbs_same (by show (wordsOf (fun i => (rowW A xs).F (i : Int)) xs.length).foldl _ _ = _; rw [wordsOf_row, sumW_all])) allE_nil)))) rfl (fun i r h h0 => by obtain ⟨_, rfl⟩ := rows1_inv h; show 0 < 4; decide) hP5 hB5
theorem adds_long (A : Option Addr) (xs : List (BitVec 256)) (c : Nat) (h : 50 < xs.length) : Is (evCall (EL (rows1 (rowW A xs))) 60 3 [.rsl 0 (RowI.n (rowW A xs)) c] ⟨[], [true], allW⟩ (fun v _ => v = .bool false true)) := ev_eq [(decide ((xs.length : Int) > 50), true)] (.bool false true : AV) (by kernel_rfl) (allE_cons (decide_eq_true (by omega)) allE_nil)
theorem wadds_any (A : Option Addr) (xs : List (BitVec 256)) (c : Nat) (w : World) (hS : SlAt w A (wordsC xs)) (hc : xs.length ≤ c) : Calls Tryd.prog 3 #[.slice A xs.length c] w fun e w' => e = .returned (.bool true) ∧ Below w.heap.size w w' := by
  obtain ⟨hA, hd⟩ := rowW_rd hS
  have hRw := rowW_rw hA
  by_cases h : 50 < xs.length
  · exact ev_callsR (EL_ok hRw) 60 (adds_long A xs c h) rfl (.cons (.rsl (r := rowW A xs) rfl hc) .nil) w hd
  · exact adds_any A xs c hRw hc h w hd
end

section
/-- At the outermost, or in a round. -/
def NF (F : Fence) : Prop := F = Fence.wide ∨ ∃ l, F = Fence.wide.inRound l
section
variable {P : Program} {F : Fence} {a : Act} {w : World} {Q : Exit → Act → World → Prop} {ops : Array Oper}
theorem operF (hF : NF F) (o : Oper) (hd : ∀ c, o.op ≠ .defer c) {K : Act → World → Prop} (h : o.wp P a w K Q) : o.wpIn F 0 P a w K Q := by
  rcases hF with rfl | ⟨l, rfl⟩
  · refine ⟨fun _ _ => trivial, ?_⟩
    rw [Oper.semAt_eq _ _ o hd]
    unfold Oper.wp at h
    cases hr : (execOp a.eval o).run P w with
    | ok x w' =>
      rw [hr] at h
      cases x <;> simp only [Oper.upon, Oper.uponIn] at h ⊢
      all_goals first
        | exact h
        | exact h.elim
        | exact ⟨fun h => by simp [Fence.wide] at h, callsIn_wide.2 h⟩
        | skip
      all_goals exact ⟨fun h => by simp [Fence.wide] at h, fun c cs _ => let ⟨v, w', r, s⟩ := h c cs; ⟨v, w', r, stepsIn_wide.2 s⟩⟩
    | halt x w' =>
      rw [hr] at h
      cases x <;> simp only [Oper.upon, Oper.uponIn] at h ⊢ <;> first | exact h | exact h.elim
  · exact operIn o hd h
theorem opF (hF : NF F) (hd : ∀ (i : Nat) (o : Oper), ops[i]? = some o → ∀ c, o.op ≠ .defer c) (hq : ¬ LetsOut Q) {i : Nat} {K K' : Act → World → Prop} (hK : ∀ a w, K a w → K' a w) (h : wpOp P ops Q i K a w) : wpOpIn F 0 P ops Q i K' a w := by
  unfold wpOp at h
  unfold wpOpIn
  have hfn : ∀ f, F.fn f := by rcases hF with rfl | ⟨l, rfl⟩ <;> intro f <;> trivial
  cases ho : ops[i]? with
  | none => rw [ho] at h; exact hK _ _ h
  | some o =>
    rw [ho] at h
    simp only at h ⊢
    split
    · rename_i hw
      rw [if_pos hw] at h
      rcases h with h | h
      · exact operF hF o (hd i o ho) (Oper.wp_mono hK h)
      · exact absurd h.2 hq
    · rename_i hw
      rw [if_neg hw] at h
      exact ⟨fun f _ => hfn f, hK _ _ h⟩
theorem wpAnyIn_of_seq : ∀ (l : List Oper) (k : Nat) (listed : Array Bool) (a : Act) (w : World), (∀ j, l[j]? = ops[k + j]?) →
    Region.seqB .any ops l.length k listed = true → wpListIn F 0 P ops Q l a w → wpAnyIn F 0 P .any ops Q l.length listed a w
  | [], _, _, _, _, _, hB, h => ⟨by simpa [Region.seqB] using hB, h⟩
  | o :: l, k, listed, a, w, hl, hB, h => by
    have h0 : ops[k]? = some o := by simpa using (hl 0).symm
    simp only [List.length_cons, Region.seqB, Bool.and_eq_true, decide_eq_true_eq] at hB
    refine ⟨fun h1 => (by rw [hB.1] at h1; cases h1), fun i hi => ?_⟩
    rw [hB.1] at hi
    have hik : i = k := by simpa using hi
    subst hik
    have ih := fun a' w' h' => wpAnyIn_of_seq l (i + 1) (listed.setIfInBounds i true) a' w' (fun j => by have := hl (j + 1); simpa [Nat.add_assoc, Nat.add_comm 1 j] using this) hB.2 h'
    unfold wpListIn at h
    unfold wpOpIn
    simp only [h0]
    split
    · rename_i hw
      rw [if_pos hw] at h
      exact Oper.wpIn_mono ih h
    · rename_i hw
      rw [if_neg hw] at h
      exact ⟨h.1, ih _ _ h.2⟩
end
namespace Fw
variable {P : Program} {F : Fence} {ops : Array Oper} {St : WP} {kd : Nat → Nat} {n : Nat}
theorem wpAnyIn_of_G (hF : NF F) {Q : Exit → Act → World → Prop} (hd : ∀ (i : Nat) (o : Oper), ops[i]? = some o → ∀ c, o.op ≠ .defer c) (hq : ¬ LetsOut Q) {g : Nat} {L : Array Bool → Post} (hL : ∀ listed a S w, Stable S → S w → L listed a S → wpAnyIn F 0 P .any ops Q g listed a w) :
    ∀ (f : Nat) (listed : Array Bool) (a : Act) (S : WP) (w : World), Stable S → S w → wpAnyG P .any ops St kd n L f listed a S → wpAnyIn F 0 P .any ops Q (f + g) listed a w
  | 0, listed, a, S, w, hS, hC, h => by rw [Nat.zero_add]; exact hL _ _ _ _ hS hC h
  | f + 1, listed, a, S, w, hS, hC, h => by
    rw [show f + 1 + g = (f + g) + 1 by omega]
    exact ⟨fun h0 => absurd h0 h.1, fun i hi => opF hF hd hq (fun _ _ h => h) (wp_of_gOp hS hC (fun a' S' w' hS' hC' h' => wpAnyIn_of_G hF hd hq hL f _ a' S' w' hS' hC' h') (h.2 i hi).2)⟩
/-- A region that draws its order, whose tail may call what yields. -/
theorem regInY (hF : NF F) {a : Act} {w : World} {Q : Exit → Act → World → Prop} {id : Nat} {l : List Oper} (hd : noDefer l = true) (hq : ¬ LetsOut Q) (n C G : Nat) (T0 : List Row4) (ord : List (Mv × Nat)) (tl : List (Nat × Nat)) (St S : WP) (hSt : ∀ w, S w → St w) (hSS : Stable S) (hm : P.follows .mixedOrders = true) (hB : regionB .any l n C G T0 ord tl = true)
    (hO : S w.drew)
    (h : wpG P l.toArray St (fun a' S' => ∀ w', Stable S' → S' w' → wpListIn F 0 P l.toArray Q (l.drop n) a' w') (ord.map (·.1)) a S) : (Code.region id l.toArray true).wpIn F 0 P Q a w := by
  refine wpIn_region_any hm ?_
  show wpAnyIn F 0 P .any l.toArray Q l.toArray.size (Array.replicate l.toArray.size false) a w.drew
  simp only [regionB, Bool.and_eq_true] at hB
  obtain ⟨⟨⟨⟨⟨ht, hsel⟩, hT⟩, hlen⟩, hn⟩, hord⟩ := hB
  have hlen := Nat.eq_of_beq_eq_true hlen
  have hn := Nat.le_of_ble_eq_true hn
  have hdl : (l.drop n).length = l.length - n := by simp
  have inv0 : HeadInv .any l.toArray n (Array.replicate l.toArray.size false) :=
    ⟨by simp, fun j oj _ hl => (by rw [getD_replicate_false] at hl; cases hl), fun t _ ht => getD_in (by simpa using ht) (getD_replicate_false _ _)⟩
  have hL0 : Lst l.toArray 0 (Array.replicate l.toArray.size false) := ⟨by simp, fun j => by rw [getD_replicate_false]; simp⟩
  have HH := wpAnyG_of_walk (md := .any) hsel (tail_spec ht hT) (ord.map (·.1)) _ a _ ⟨hSS, hSt⟩ inv0 (order_spec ht ord 0 _ hL0 hord) h
  have := wpAnyIn_of_G (F := F) hF (Q := Q) (fun i o ho => noDefer_at hd ho) hq (g := l.length - n) (fun listed a' S w' hS hC hL => by
    have := wpAnyIn_of_seq (F := F) (Q := Q) (l.drop n) n listed a' w' (fun j => by simp [List.getElem?_drop]) (by rw [hdl]; exact hL.1) (hL.2 w' hS hC)
    rwa [hdl] at this) _ _ _ _ _ hSS hO HH
  rw [hlen, show n + (l.length - n) = l.toArray.size by simp; omega] at this
  exact this
end Fw
section
variable {P : Program} {F : Fence} {a : Act} {w : World} {Q : Exit → Act → World → Prop} {ops : Array Oper}
/-- A call of yield. -/
theorem list_yield (hF : NF F) {o : Oper} {rest : List Oper} {g : Operand} {xs : Array Operand} {ts : Array TypeId} {l : Nat} {args : Array Value} {Post : Ending → World → Prop} (hw : Region.wanted o (yielded ops a.tmps) = true) (ho : o.op = .call ⟨.value g, xs, ts⟩) (hg : a.eval g = .func (.yield l) #[] #[]) (hargs : xs.map a.eval = args)
    (hy : YieldAt Fence.wide 0 P l args w Post) (hk : ∀ e w', Post e w' → ∃ v, e = .returned v ∧ wpListIn F 0 P ops Q rest (a.put o.dst v) w') : wpListIn F 0 P ops Q (o :: rest) a w := by
  obtain ⟨fn, tmps, assign, body, hrun, hR⟩ := hy
  have hfn : ∀ f, F.fn f := by rcases hF with rfl | ⟨l, rfl⟩ <;> intro f <;> trivial
  have hdp : F.depth.isSome = true → 1 ≤ 0 := by rcases hF with rfl | ⟨l, rfl⟩ <;> intro h <;> cases h
  have hRF : RoundIn F 0 P l fn tmps assign body w Post := by rcases hF with rfl | ⟨l, rfl⟩ <;> exact hR
  unfold wpListIn
  rw [if_pos hw]
  refine ⟨fun f _ => hfn f, ?_⟩
  rw [Oper.semAt_eq _ _ o (fun c hc => by rw [ho] at hc; cases hc)]
  have hr : (execOp a.eval o).run P w = .ok (.round l fn tmps assign body) w := by
    obtain ⟨dst, op, ty, pos, aft, gd⟩ := o
    have ho : op = .call ⟨.value g, xs, ts⟩ := ho
    subst ho
    simp only [execOp, resolve, hg, Deferred.ofValue, Sem.run_bind, Sem.run_pure, Result.andThen_ok, invoke, hargs]
    simpa using hrun
  rw [hr]
  refine ⟨hdp, hRF.mono fun e w' he => ?_⟩
  obtain ⟨v, rfl, h⟩ := hk e w' he
  exact h
end
/-- What abides any change to blocks from B on abides many of them. -/
theorem any_all {β : Type} {B : Nat} {I : β → World → Prop} (hI : AnyFrom B I) {s : β} {W W' : World} (h : I s W) (hos : W'.os = W.os) (ht : W'.tape = W.tape) (ho : W'.output = W.output) (hsz : W.heap.size ≤ W'.heap.size) (hb : ∀ k, k < B → k < W.heap.size → W'.heap[k]? = W.heap[k]?) : I s W' := by
  -- as long as W' and hereafter like W' but for these places
  have key : ∀ (d lo : Nat) (W1 : World), I s W1 → W1.os = W'.os → W1.tape = W'.tape → W1.output = W'.output → W1.heap.size = W'.heap.size → B ≤ lo → (∀ k, k < lo ∨ lo + d ≤ k → W1.heap[k]? = W'.heap[k]?) → I s W' := by
    intro d
    induction d with
    | zero =>
      intro lo W1 h1 e1 e2 e3 e4 _ e6
      exact hI s W1 W' none h1 ⟨e1.symm, e2.symm, e3.symm, by rw [e4]; exact Nat.le_refl _, fun k _ _ => (e6 k (by omega)).symm⟩ (fun r e => by cases e)
    | succ d ih =>
      intro lo W1 h1 e1 e2 e3 e4 e5 e6
      rcases Nat.lt_or_ge lo W'.heap.size with hlt | hge
      · have hg : W1.grownBy (W1.putObj lo W'.heap[lo]) (some lo) := grownBy_putObj' W1 lo _
        refine ih (lo + 1) (W1.putObj lo W'.heap[lo]) (hI s W1 _ (some lo) h1 hg (fun r e => by cases e; exact e5)) e1 e2 e3 (by simpa [World.putObj] using e4) (by omega) (fun k hk => ?_)
        by_cases hkl : k = lo
        · subst hkl
          rw [World.putObj_heap_same (by rw [e4]; exact hlt), Array.getElem?_eq_getElem hlt]
        · rw [World.putObj_heap_other hkl]
          exact e6 k (by omega)
      · refine ih (lo + 1) W1 h1 e1 e2 e3 e4 (by omega) (fun k hk => ?_)
        by_cases hkl : k = lo
        · rw [Array.getElem?_eq_none (by omega), Array.getElem?_eq_none (by omega)]
        · exact e6 k (by omega)
  -- first only what is new
  have h0 : I s { W' with heap := W.heap ++ W'.heap.extract W.heap.size W'.heap.size } := hI s W _ none h ⟨hos, ht, ho, by simp, fun k hk _ => by simp [Array.getElem?_append_left hk]⟩ (fun r e => by cases e)
  refine key W.heap.size B _ h0 rfl rfl rfl (by simp; omega) (Nat.le_refl _) (fun k hk => ?_)
  rcases Nat.lt_or_ge k W.heap.size with hlt | hge
  · rcases hk with hk | hk
    · show (W.heap ++ W'.heap.extract W.heap.size W'.heap.size)[k]? = W'.heap[k]?
      rw [Array.getElem?_append_left hlt]; exact (hb k hk hlt).symm
    · omega
  · show (W.heap ++ W'.heap.extract W.heap.size W'.heap.size)[k]? = W'.heap[k]?
    rw [Array.getElem?_append_right hge, Array.getElem?_extract]
    rw [show W.heap.size + (k - W.heap.size) = k by omega]
    split
    · rfl
    · rw [Array.getElem?_eq_none (by omega)]
section
variable {D : List Deferred} {E : Env} (hE : EnvOK E)
include hE
/-- The head of a region that draws its order. -/
theorem ev_dhead {F : Fence} (hF : NF F) (nf : Nat) {id : Nat} {l : List Oper} {st : ASt} {K : ASt → Prop} {p : Plan} (hp : p.ok l = true) (hd : noDefer l = true) (h : headP E (callWith E (evT E nf)) st.m.H.length (statOf E st l p.n p.ord) l p.ord st K) {a : Act} {Hr : List RBlk} {w : World} {Q : Exit → Act → World → Prop} (hq : ¬ LetsOut Q) (hR : RelSt E.rows D st a Hr) (hO : OwnK E.rows st.m.H Hr w)
    (hk : ∀ st' a' Hr' w', K st' → RelSt E.rows D st' a' Hr' → OwnK E.rows st'.m.H Hr' w' → Stp st.m.wr Hr w Hr' w' → wpListIn F 0 E.P l.toArray Q (l.drop p.n) a' w') : (Code.region id l.toArray true).wpIn F 0 E.P Q a w := by
  obtain ⟨st1, h1, hlo1, h2⟩ := head_sound hE (call_ok hE (ev_sound hE nf)) st.m.H.length (statOf E st l p.n p.ord) l p.ord st _ h
  have hok := hp
  unfold Plan.ok at hok
  have hBl : RelB E.rows (nums Hr) st.m.H Hr := by obtain ⟨_, _, _, hB, _⟩ := hR; exact hB
  have hlen := hBl.len
  have hst := stat_of (E := E) (l := l) (n := p.n) (ord := p.ord) hBl
  have hdr := (Below.refl w.heap.size w).drew
  refine Fw.regInY hF hd hq p.n p.C p.G p.T0 p.ord p.tl (StP E.rows (statOf E st l p.n p.ord) Hr) (Cl E.rows st.m.wr Hr w st.m.H Hr) (cl_st hst) cl_stable hE.mixed hok ⟨⟨hO.1.grow hdr, hO.2.below' hdr⟩, .of_below hdr⟩ ?_
  refine h2 a Hr hR Hr w _ _ cl_stable (fun _ h => h) hlen hst fun a' Hr' S' hR' hS' w' hss hw' => ?_
  have hcl := hS' w' hw'
  exact hk st1 a' Hr' w' h1 hR' hcl.1 hcl.2
end
end

section
def wrZ (fz : List Nat) : Nat → Bool := fun l => !memN l fz
/-- What is known: the labels' blocks were made by the call (n0 on), below B or since V0 or else frozen; what S holds and what lies from B on is as it was at V0. -/
structure It (R : Rws) (base : Nums) (n0 : Nat) (S0 S : Nat → Prop) (B : Nat) (fz : List Nat) (V0 : World) (J : World → Prop) (H : Mem) (Hr : List RBlk) (V : World) : Prop where
  own : OwnK R H Hr V
  lab : ∀ (l : Nat) (q : Num), (nums Hr)[l]? = some q → q.ph = false → (n0 ≤ q.b ∧ (q.b < B ∨ V0.heap.size ≤ q.b ∨ memN l fz = true)) ∨ (S0 q.b ∧ memN l fz = true)
  n0v : n0 ≤ V0.heap.size
  sv : ∀ k, S k → k < V0.heap.size
  frz : ∀ k, S k → ∀ (l : Nat) (q : Num), (nums Hr)[l]? = some q → q.ph = false → q.b = k → memN l fz = true
  keep : Keep (fun b => S b ∨ B ≤ b) V0 V
  ext : ∃ σ, nums Hr = base ++ σ
  j : J V
abbrev AnyN (n0 : Nat) (J : World → Prop) : Prop := AnyFrom n0 (fun (_ : Unit) V => J V)
section
variable {R : Rws} {base : Nums} {n0 B : Nat} {S0 S : Nat → Prop} {fz : List Nat} {V0 V V' : World} {J : World → Prop} {H H' : Mem} {Hr Hr' : List RBlk}
theorem wrZ_f {l : Nat} (h : memN l fz = true) : wrZ fz l = false := by unfold wrZ; rw [h]; rfl
theorem It.stp (hJ : AnyN n0 J) (h : It R base n0 S0 S B fz V0 J H Hr V) (hO : OwnK R H' Hr' V') (hst : Stp (wrZ fz) Hr V Hr' V') : It R base n0 S0 S B fz V0 J H' Hr' V' := by
  obtain ⟨σ, hσ, hσ2⟩ := hst.ext
  have hsz := h.keep.size
  have new : ∀ (l : Nat) (q : Num), (nums Hr')[l]? = some q → q.ph = false → (nums Hr)[l]? = some q ∨ V.heap.size ≤ q.b ∨ ∃ (l' : Nat) (p : Num), (nums Hr)[l']? = some p ∧ p.ph = false ∧ p.b = q.b ∧ wrZ fz l' = true := fun l q hq hp => by
    rw [hσ] at hq
    rcases Nat.lt_or_ge l (nums Hr).length with hlt | hge
    · rw [List.getElem?_append_left hlt] at hq; exact .inl hq
    · rw [List.getElem?_append_right hge] at hq
      rcases hσ2 q (List.mem_of_getElem? hq) hp with g | g
      · exact .inr (.inl g)
      · exact .inr (.inr g)
  have hnv := h.n0v
  refine ⟨hO, fun l q hq hp => ?_, h.n0v, h.sv, fun k hk l q hq hp hb => ?_, ⟨hst.os.trans h.keep.os, hst.tape.trans h.keep.tape, hst.output.trans h.keep.output, Nat.le_trans hsz hst.size, fun k hk hl => ?_⟩, ?_, ?_⟩
  · rcases new l q hq hp with g | g | ⟨l', p, g1, g2, g3, g4⟩
    · exact h.lab l q g hp
    · exact .inl ⟨by omega, .inr (.inl (by omega))⟩
    · rcases h.lab l' p g1 g2 with ⟨a, b⟩ | ⟨_, b⟩
      · rw [g3] at a b
        refine .inl ⟨a, ?_⟩
        rcases b with b | b | b
        · exact .inl b
        · exact .inr (.inl b)
        · rw [wrZ_f b] at g4; cases g4
      · rw [wrZ_f b] at g4; cases g4
  · have hkv := h.sv k hk
    rcases new l q hq hp with g | g | ⟨l', p, g1, g2, g3, g4⟩
    · exact h.frz k hk l q g hp hb
    · omega
    · have := h.frz k hk l' p g1 g2 (g3.trans hb)
      rw [wrZ_f this] at g4; cases g4
  · refine (hst.block k (by omega) (fun l q hq hp hb => ?_)).trans (h.keep.block k hk hl)
    rcases hk with hk | hk
    · exact wrZ_f (h.frz k hk l q hq hp hb)
    · rcases h.lab l q hq hp with ⟨_, b⟩ | ⟨_, b⟩
      · rcases b with b | b | b
        · omega
        · omega
        · exact wrZ_f b
      · exact wrZ_f b
  · obtain ⟨τ, hτ⟩ := h.ext
    exact ⟨τ ++ σ, by rw [hσ, hτ, List.append_assoc]⟩
  · exact any_all hJ (s := ()) h.j hst.os hst.tape hst.output hst.size (fun k hk hl => hst.block k hl (fun l q hq hp hb => by
      rcases h.lab l q hq hp with ⟨a, _⟩ | ⟨_, b⟩
      · omega
      · exact wrZ_f b))
end
section
variable {D : List Deferred} {E : Env} (hE : EnvOK E) {F : Fence} (hF : NF F) {base : Nums} {n0 B : Nat} {S0 S : Nat → Prop} {fz : List Nat} {V0 w : World} {J : World → Prop} {H H' : Mem} {Hr : List RBlk} {a : Act} {Q : Exit → Act → World → Prop} {live live' : List (Nat × AV)} {n : Nat} {ds ds' : List Bool} {wr' : Nat → Bool}
include hE hF
theorem codeF (nf : Nat) {c : Code} {st : ASt} {K : AExit → ASt → Prop} (hin : inB c = true) (h : evT E nf (.code c) st K) : ∃ e st', K e st' ∧ st'.m.wr = st.m.wr ∧ ∀ {D : List Deferred} a Hr w, RelSt E.rows D st a Hr → OwnK E.rows st.m.H Hr w → c.wpIn F 0 E.P (Rch E.rows D e st' st.m.wr Hr w) a w := by
  rcases hF with rfl | ⟨l, rfl⟩
  · obtain ⟨e, st', h1, h2, h3⟩ := ev_sound hE nf (.code c) st K h
    exact ⟨e, st', h1, h2, fun a Hr w hR hO => wpIn_wide.2 (h3 a Hr w hR hO)⟩
  · exact ev_in hE l nf c st K hin h
/-- Code, however it ends. -/
theorem it_code (hJ : AnyN n0 J) (nf : Nat) (e0 : AExit) {c : Code} (hin : inB c = true) (h : ∀ r, Is (evT E nf (.code c) ⟨pat live r 0 n, ⟨H, ds, wrZ fz⟩⟩ (chE e0 live' n H' []))) (hP : PatSt E.rows D live n ⟨H, ds', wr'⟩ a Hr) (hB : It E.rows base n0 S0 S B fz V0 J H Hr w)
    (hk : ∀ a' Hr' w', PatSt E.rows D live' n ⟨H', [], wrZ fz⟩ a' Hr' → It E.rows base n0 S0 S B fz V0 J H' Hr' w' → Q e0.real a' w') : c.wpIn F 0 E.P Q a w := by
  obtain ⟨r, hR⟩ := hP
  obtain ⟨e, st', h1, hlo, hs⟩ := codeF hE hF nf hin (h r).is
  refine wpIn_mono (hs a Hr w hR hB.own) ?_
  rintro e' a' w' ⟨rfl, Hr', hR', hO', hS⟩
  unfold chE at h1
  simp only [Prod.mk.injEq] at h1
  obtain ⟨he, hn, hl, rfl, hds⟩ := h1
  rw [eqE_eq he]
  have hP' := patSt_of (live := live) hR' hn (lives_of hl)
  exact hk a' Hr' w' hP' (hB.stp hJ hO' hS)
theorem list_soundIn {call : CallF} (hC : CallOK E call) (ops l2 : List Oper) : ∀ (l : List Oper) (st : ASt) (K : ASt → Prop), noDefer l = true → listP E call ops l st K → ∃ st', K st' ∧ st'.m.wr = st.m.wr ∧ ∀ {D : List Deferred} a Hr w, RelSt E.rows D st a Hr → OwnK E.rows st.m.H Hr w → ∀ Q : Exit → Act → World → Prop,
    (∀ a' Hr' w', RelSt E.rows D st' a' Hr' → OwnK E.rows st'.m.H Hr' w' → Stp st.m.wr Hr w Hr' w' → wpListIn F 0 E.P ops.toArray Q l2 a' w') → wpListIn F 0 E.P ops.toArray Q (l ++ l2) a w
  | [], st, K, _, h => ⟨st, h, rfl, fun a Hr w hR hO Q hq => hq a Hr w hR hO (.refl _ _ _)⟩
  | o :: r, st, K, hnd, h => by
    have hfn : ∀ f, F.fn f := by rcases hF with rfl | ⟨l, rfl⟩ <;> intro f <;> trivial
    obtain ⟨st1, st2, hk, h1, h2, h3, h4⟩ := step_sound hE hC h
    have hnd' : noDefer r = true := by
      unfold noDefer at hnd ⊢
      rw [List.all_cons, Bool.and_eq_true] at hnd; exact hnd.2
    have hdo : ∀ c, o.op ≠ .defer c := fun c hc => by
      unfold noDefer at hnd
      rw [List.all_cons, Bool.and_eq_true, hc] at hnd; cases hnd.1
    obtain ⟨st', hK, hlo, hl⟩ := list_soundIn hC ops l2 r st2 K hnd' hk
    rcases h4 with ⟨hw, hd⟩ | ⟨_, hw, rfl⟩
    · refine ⟨st', hK, hlo.trans (hd.lo.trans h2), fun a Hr w hR hO Q hq => ?_⟩
      rw [List.cons_append]
      unfold wpListIn
      rw [if_pos (hw a Hr hR)]
      refine operF hF o hdo (did_seq hd (h1 a Hr hR) (by rw [h3]; exact hO) fun a' Hr' w' hR' hO' hS => hl a' Hr' w' hR' hO' Q fun a2 Hr2 w2 hR2 hO2 hS2 => hq a2 Hr2 w2 hR2 hO2 ?_)
      rw [hd.lo, h2] at hS2
      rw [h2] at hS
      exact hS.trans hS2
    · refine ⟨st', hK, hlo.trans h2, fun a Hr w hR hO Q hq => ?_⟩
      rw [List.cons_append]
      unfold wpListIn
      rw [if_neg (by rw [hw a Hr hR]; simp)]
      obtain ⟨vs, rfl, ht, hB, hn⟩ := h1 a Hr hR
      rename_i D'
      obtain ⟨vs', e, hv⟩ := putA_rel (D := D') (v := undefA) (V := undef) ht o.dst .raw
      refine ⟨fun f _ => hfn f, hl _ Hr w ⟨vs', e, hv, hB, hn⟩ (by show OwnK E.rows st1.m.H Hr w; rw [h3]; exact hO) Q fun a2 Hr2 w2 hR2 hO2 hS2 => hq a2 Hr2 w2 hR2 hO2 ?_⟩
      have : (st1.put o.dst undefA).m.wr = st.m.wr := h2
      rw [this] at hS2
      exact hS2
/-- The first operations of a list. -/
theorem it_ops (hJ : AnyN n0 J) (nf k : Nat) {ops l : List Oper} (hnd : noDefer (l.take k) = true) (h : ∀ r, Is (listP E (callWith E (evT E nf)) ops (l.take k) ⟨pat live r 0 n, ⟨H, ds, wrZ fz⟩⟩ (chK live' n H' [] .normal)))
    (hP : PatSt E.rows D live n ⟨H, ds', wr'⟩ a Hr) (hB : It E.rows base n0 S0 S B fz V0 J H Hr w)
    (hk : ∀ a' Hr' w', PatSt E.rows D live' n ⟨H', [], wrZ fz⟩ a' Hr' → It E.rows base n0 S0 S B fz V0 J H' Hr' w' → wpListIn F 0 E.P ops.toArray Q (l.drop k) a' w') : wpListIn F 0 E.P ops.toArray Q l a w := by
  obtain ⟨r, hR⟩ := hP
  obtain ⟨st', h1, hlo, h2⟩ := list_soundIn hE hF (call_ok hE (ev_sound hE nf)) ops (l.drop k) (l.take k) _ _ hnd (h r).is
  rw [← List.take_append_drop k l]
  refine h2 a Hr w hR hB.own Q fun a' Hr' w' hR' hO' hS => ?_
  unfold chK at h1
  simp only [Prod.mk.injEq] at h1
  obtain ⟨_, hn, hl, rfl, hds⟩ := h1
  have hP' := patSt_of (live := live') hR' hn (lives_of hl)
  have := hk a' Hr' w' hP' (hB.stp hJ hO' hS)
  simpa using this
/-- The head of a region that draws its order. -/
theorem it_dhead (hJ : AnyN n0 J) (nf : Nat) {id : Nat} {l : List Oper} {p : Plan} (hp : p.ok l = true) (hd : noDefer l = true) (hq : ¬ LetsOut Q) (h : ∀ r, Is (headP E (callWith E (evT E nf)) H.length (statOf E ⟨pat live r 0 n, ⟨H, ds, wrZ fz⟩⟩ l p.n p.ord) l p.ord ⟨pat live r 0 n, ⟨H, ds, wrZ fz⟩⟩ (chK live' n H' [] .normal)))
    (hP : PatSt E.rows D live n ⟨H, ds', wr'⟩ a Hr) (hB : It E.rows base n0 S0 S B fz V0 J H Hr w)
    (hk : ∀ a' Hr' w', PatSt E.rows D live' n ⟨H', [], wrZ fz⟩ a' Hr' → It E.rows base n0 S0 S B fz V0 J H' Hr' w' → wpListIn F 0 E.P l.toArray Q (l.drop p.n) a' w') : (Code.region id l.toArray true).wpIn F 0 E.P Q a w := by
  obtain ⟨r, hR⟩ := hP
  have hR : RelSt E.rows D ⟨pat live r 0 n, ⟨H, ds, wrZ fz⟩⟩ a Hr := hR
  refine ev_dhead hE hF nf hp hd (h r).is hq hR hB.own fun st' a' Hr' w' h1 hR' hO' hS => ?_
  unfold chK at h1
  simp only [Prod.mk.injEq] at h1
  obtain ⟨_, hn, hl, rfl, hds⟩ := h1
  exact hk a' Hr' w' (patSt_of (live := live') hR' hn (lives_of hl)) (hB.stp hJ hO' hS)
end
/-- What is called, if it is what yields. -/
def evalY (tl : List AV) : List Oper → Option (Nat × List AV × Tmp)
  | ⟨some d, .call ⟨.value g, xs, _⟩, _, _, _, none⟩ :: _ => match evO tl g, evs (evO tl) xs.toList with
    | some (.func (.yield l) []), some vs => some (l, vs, d)
    | _, _ => none
  | _ => none
/-- How a round of what is outside may end. -/
def YPost (S0 : Nat → Prop) (n0 : Nat) (Jt Jf : World → Prop) (V : World) : Ending → World → Prop := fun e W' => (e = .returned (.bool true) ∧ Jt W' ∧ Keep (fun b => S0 b ∨ n0 ≤ b) V W') ∨ (e = .returned (.bool false) ∧ Jf W' ∧ Keep (fun b => n0 ≤ b) V W')
theorem rel_forget {R : Rws} {ρ : Nums} {tl : List AV} {vs : List Value} (h : RelL R ρ tl vs) {d : Nat} {V : Value} {v : AV} (hd : vs[d]? = some V) (hv : v.val? = some V) : ∃ r, RelL noRows [] (pat [(d, v)] r 0 tl.length) vs := by
  have hlen := h.len
  have key : ∀ (vs : List Value), vs[d]? = some V → RelL noRows [] ((vs.map AV.raw).set d v) vs := by
    intro vs hd
    have hraw : ∀ vs : List Value, RelL noRows [] (vs.map AV.raw) vs := by
      intro vs
      induction vs with
      | nil => exact .nil
      | cons x vs ih => exact .cons .raw ih
    exact (hraw vs).setSame hd (Rel.of_val hv)
  have hd2 : d < vs.length := (List.getElem?_eq_some_iff.1 hd).1
  have h2 := pat_of (key vs hd) (live := [(d, v)]) (fun i u hu => by
    unfold look at hu
    cases hb : Nat.beq i d <;> simp only [hb, cond_true, cond_false] at hu
    · cases hu
    · rw [Nat.eq_of_beq_eq_true hb]; cases hu
      rw [List.getElem?_set_self (by simpa using hd2)])
  simpa [hlen] using h2
section
variable {D : List Deferred} {R : Rws} {P : Program} {F : Fence} (hF : NF F) {base : Nums} {n0 B : Nat} {S S0 : Nat → Prop} {fz : List Nat} {V0 V : World} {J Jt Jf : World → Prop} {H : Mem} {Hr : List RBlk} {a : Act} {Q : Exit → Act → World → Prop} {live : List (Nat × AV)} {n : Nat} {ds : List Bool} {wr' : Nat → Bool}
include hF
/-- A call of yield. -/
theorem it_yield {ops : Array Oper} {l : List Oper} {ly d : Nat} {avs : List AV} {args : Array Value} (hcall : ∀ r, evalY (pat live r 0 n) l = some (ly, avs, d)) (hd : d < n) (hkeys : live.all (fun p => Nat.blt p.1 n) = true) (hx : AV.plains? avs = some args.toList)
    (hSS : ∀ k, S k → S0 k ∨ n0 ≤ k) (hn0 : n0 ≤ B) (hRS : ∀ j r, R j = some r → 0 < r.n → ∀ b off, r.A = some ⟨b, off, none⟩ → S0 b)
    (hP : PatSt R D live n ⟨H, ds, wr'⟩ a Hr) (hB : It R base n0 S0 S B fz V0 J H Hr V)
    (hY : YieldAt Fence.wide 0 P ly args V (YPost S0 n0 Jt Jf V))
    (k1 : ∀ a' w', PatSt R D ((d, .bool true true) :: live) n ⟨H, [], wrZ fz⟩ a' Hr → It R base n0 S0 S B fz V0 Jt H Hr w' → wpListIn F 0 P ops Q l.tail a' w')
    (k2 : ∀ a' w', PatSt noRows D [(d, .bool true false)] n ⟨[], [], wrZ fz⟩ a' [] → It noRows [] n0 S0 (fun _ => False) B fz V0 Jf [] [] w' → wpListIn F 0 P ops Q l.tail a' w') : wpListIn F 0 P ops Q l a V := by
  obtain ⟨r, vs, rfl, ht, hBl, hnd⟩ := hP
  have h := hcall r
  unfold evalY at h
  split at h
  · rename_i dd g xs ts ty pos aft os
    split at h
    · rename_i l' us hg hvs
      simp only [Option.some.injEq, Prod.mk.injEq] at h
      obtain ⟨rfl, rfl, rfl⟩ := h
      have e1 := evO_sound (D := D) ht _ _ hg
      generalize hge : (⟨vs.toArray, D⟩ : Act).eval g = gv at e1
      cases e1 with | func hcaps =>
      cases hcaps
      have e2 := evs_sound (evO_sound (D := D) ht) hvs
      have hargs : xs.map (⟨vs.toArray, D⟩ : Act).eval = args := by
        apply Array.toList_inj.1
        rw [Array.toList_map]
        exact e2.plains hx
      have hl := ht.len
      rw [pat_len] at hl
      refine list_yield hF (l := l') (args := args) (by simp [Region.wanted]) rfl hge hargs hY fun e w' he => ?_
      rcases he with ⟨rfl, hjt, hkp⟩ | ⟨rfl, hjf, hkp⟩
      · refine ⟨_, rfl, k1 _ w' ?_ ?_⟩
        · refine patSt_of (live := live) (st := ⟨(pat live r 0 n).set dd (.bool true true), ⟨H, [], wrZ fz⟩⟩) ⟨vs.set dd (.bool true), by simp [Act.put], ht.set .bool, hBl, hnd⟩ (by simp [pat_len]) (fun i v hv => ?_)
          unfold look at hv
          cases hb' : Nat.beq i dd <;> simp only [hb', cond_true, cond_false] at hv
          · have hne : i ≠ dd := Nat.ne_of_beq_eq_false hb'
            rw [List.getElem?_set_ne (Ne.symm hne)]
            exact pat_get hv (look_lt hkeys hv)
          · rw [Nat.eq_of_beq_eq_true hb']; cases hv
            rw [List.getElem?_set_self (by rw [pat_len]; exact hd)]
        · refine ⟨⟨fun l it q g1 g2 hq => ?_, fun j rr hj b off hA h0 => ?_⟩, hB.lab, hB.n0v, hB.sv, hB.frz, hB.keep.trans (hkp.mono fun k hk => ?_), hB.ext, hjt⟩
          · obtain ⟨x1, x2⟩ := hB.own.1 l it q g1 g2 hq
            have hb : S0 q.b ∨ n0 ≤ q.b := (hB.lab l q.num (nums_get g2) hq).elim (fun h => .inr h.1) (fun h => .inl h.1)
            exact ⟨Nat.lt_of_lt_of_le x1 hkp.size, fun hv => (hkp.block q.b hb x1).trans (x2 hv)⟩
          · obtain ⟨y1, y2, y3⟩ := hB.own.2 j rr hj b off hA h0
            have hb := hkp.block b (.inl (hRS j rr hj h0 b off hA)) y2
            exact ⟨y1, Nat.lt_of_lt_of_le y2 hkp.size, fun i hi q u hu => (World.cell?_of_block (a := ⟨b, off + i * rr.s + q, none⟩) hb).trans (y3 i hi q u hu)⟩
          · rcases hk with hk | hk
            · exact hSS k hk
            · exact .inr (Nat.le_trans hn0 hk)
      · refine ⟨_, rfl, k2 _ w' ?_ ⟨⟨OwnM.nil _, rd_no _ _⟩, by simp [nums], hB.n0v, fun k hk => hk.elim, fun k hk => hk.elim, (hB.keep.mono fun k hk => .inr (hk.resolve_left id)).trans (hkp.mono fun k hk => Nat.le_trans hn0 (hk.resolve_left id)), ⟨[], rfl⟩, hjf⟩⟩
        have hset : (vs.set dd (.bool false))[dd]? = some (.bool false) := by rw [List.getElem?_set_self (by rw [hl]; exact hd)]
        obtain ⟨r2, hr2⟩ := rel_forget (ht.set (v := .bool false) (c := .bool true false) (i := dd) .bool) hset (v := .bool true false) rfl
        rw [List.length_set, pat_len] at hr2
        exact ⟨r2, vs.set dd (.bool false), by simp [Act.put], hr2, .nil, Apart.nil⟩
    · cases h
  · cases h
end
/-- A loop of N rounds. -/
theorem it_loop {P : Program} {F : Fence} {c : Code} {a : Act} {w : World} {Q : Exit → Act → World → Prop} (N : Nat) (inv : Nat → Act → World → Prop) (h0 : inv 0 a w) (hstep : ∀ k a w, k < N → inv k a w → c.wpIn F 0 P (Exit.then (inv (k + 1)) Q) a w) (hlast : ∀ a w, inv N a w → c.wpIn F 0 P (Exit.then (fun _ _ => False) Q) a w) : (Code.loop c).wpIn F 0 P Q a w := by
  refine wpIn_loop_rounds (N + 1) ?_
  have key : ∀ j k, k + j = N → ∀ a w, inv k a w → Code.roundsIn F 0 P c Q (j + 1) a w := by
    intro j
    induction j with
    | zero =>
      intro k hk a w h
      obtain rfl : k = N := by omega
      exact hlast a w h
    | succ j ih =>
      intro k hk a w h
      refine wpIn_mono (hstep k a w (by omega) h) fun e a' w' hq => ?_
      cases e <;> first | exact ih (k + 1) (by omega) a' w' hq | exact hq
  exact key N 0 (by omega) a w h0
/-- The blocks that an inner range leans on. -/
def Sin (S0 : Nat → Prop) (n0 : Nat) (fz : List Nat) (Hr : List RBlk) (w : World) : Nat → Prop := fun k => k < w.heap.size ∧ (S0 k ∨ (n0 ≤ k ∧ ∀ (l : Nat) (q : Num), (nums Hr)[l]? = some q → q.ph = false → q.b = k → memN l fz = true))
def ItR (R : Rws) (S0 : Nat → Prop) (Hr : List RBlk) (w : World) (H : Mem) (J : World → Prop) (V : World) : Prop := ∃ Hr1, nums Hr1 = nums Hr ∧ RelB R (nums Hr) H Hr1 ∧ Apart H Hr1 ∧ OwnM H Hr1 V ∧ J V ∧ Keep S0 w V
theorem rd_keep {R : Rws} {nb : List Nat} {S0 : Nat → Prop} {w V : World} (hr : Rd R nb w) (hk : Keep S0 w V) (hRS : ∀ j r, R j = some r → 0 < r.n → ∀ b off, r.A = some ⟨b, off, none⟩ → S0 b) : Rd R nb V := fun j rr hj b off hA h0 => by
  obtain ⟨y1, y2, y3⟩ := hr j rr hj b off hA h0
  have hb := hk.block b (hRS j rr hj h0 b off hA) y2
  exact ⟨y1, Nat.lt_of_lt_of_le y2 hk.size, fun i hi q u hu => (World.cell?_of_block (a := ⟨b, off + i * rr.s + q, none⟩) hb).trans (y3 i hi q u hu)⟩
theorem itR_any {R : Rws} {S0 : Nat → Prop} {n0 : Nat} {H0 : Mem} {Hr : List RBlk} {w : World} (hO : OwnM H0 Hr w) (hl0 : Hr.length = H0.length) (hn0 : n0 ≤ w.heap.size) {Hk : Nat → Mem} {J : Nat → World → Prop} (hJ : AnyFrom n0 J) (hS0 : ∀ k, S0 k → k < w.heap.size) : AnyFrom w.heap.size (fun k V => ItR R S0 Hr w (Hk k) (J k) V) := by
  rintro k V V' row ⟨Hr1, h1, h2, h3, h4, h5, h6⟩ hg hr
  refine ⟨Hr1, h1, h2, h3, fun l it q g1 g2 hq => ?_, hJ k V V' row h5 hg (fun r e => Nat.le_trans hn0 (hr r e)), any_keep (β := Unit) (fun k hk => .inl (hS0 k hk)) () V V' row h6 hg hr⟩
  obtain ⟨x1, x2⟩ := h4 l it q g1 g2 hq
  have hn : (nums Hr)[l]? = some q.num := by rw [← h1]; exact nums_get g2
  have hlt : q.b < w.heap.size := nums_lt hO hl0 hn hq
  refine ⟨Nat.lt_of_lt_of_le x1 hg.size, fun hv => ?_⟩
  rw [hg.block q.b x1 fun e => by have := hr _ e.symm; omega]
  exact x2 hv
/-- The end of a round. -/
theorem it_end {R : Rws} {D : List Deferred} {live : List (Nat × AV)} {n n0 : Nat} {H2 Hn : Mem} {ds : List Bool} {wr : Nat → Bool} {a : Act} {Hr Hr2 : List RBlk} {S0 : Nat → Prop} {fz fz2 : List Nat} {w V V3 : World} {J' : World → Prop} (hP : PatSt R D live n ⟨H2, ds, wr⟩ a Hr2) (hB : It R (nums Hr) n0 S0 (Sin S0 n0 fz Hr w) w.heap.size fz2 V J' H2 Hr2 V3) (hkw : Keep S0 w V) (hS0 : ∀ k, S0 k → k < w.heap.size)
    (htake : H2.take Hr.length = Hn) (hbd : bddH Hr.length (H2.take Hr.length) = true) : Keep (fun b => Sin S0 n0 fz Hr w b ∨ w.heap.size ≤ b) V V3 ∧ ItR R S0 Hr w Hn J' V3 := by
  obtain ⟨r, vs, rfl, ht, hBl, hnd⟩ := hP
  obtain ⟨σ, hσ⟩ := hB.ext
  have hHr0 : (nums Hr).length = Hr.length := by simp [nums]
  have hnt : nums (Hr2.take Hr.length) = nums Hr := by
    have : nums (Hr2.take Hr.length) = (nums Hr2).take Hr.length := by simp [nums, List.map_take]
    rw [this, hσ, ← hHr0, List.take_left]
  subst htake
  refine ⟨hB.keep, Hr2.take Hr.length, hnt, ?_, ?_, ?_, hB.j, hkw.trans (hB.keep.mono fun k hk => .inl ⟨hS0 k hk, .inl hk⟩)⟩
  · rw [hσ] at hBl
    have hsh := hBl.take Hr.length
    rw [← hHr0] at hsh hbd ⊢
    exact RelB.shrink hbd hsh
  · intro k l jt kt x y hne h1 h2 v1 v2 q1 q2 z1 z2 hb
    rw [List.getElem?_take] at h1 h2 q1 q2
    split at h1
    · split at h2
      · rename_i c1 c2
        rw [if_pos c1] at q1; rw [if_pos c2] at q2
        exact hnd k l jt kt x y hne h1 h2 v1 v2 q1 q2 z1 z2 hb
      · cases h2
    · cases h1
  · intro l jt x h1 q1 hxp
    rw [List.getElem?_take] at h1 q1
    split at h1
    · rename_i c1
      rw [if_pos c1] at q1
      exact hB.own.1 l jt x h1 q1 hxp
    · cases h1
section
variable {D : List Deferred} {E : Env} (hE : EnvOK E)
include hE
/-- A range over a function, in a function that is ranged over itself: each round may yield. -/
theorem it_each (nf : Nat) {α : Type} {xs : List α} {encs : Nat → α → Array Value} {g : Operand} {ps : Array Tmp} {assign body : Code} {gf : Nat} {caps : List AV} {live : List (Nat × AV)} {n : Nat} {H : Mem} {wr' : Nat → Bool} {a : Act} {Hr : List RBlk} {w W0 : World} {base : Nums} {n0 : Nat} {S0 : Nat → Prop} {Q : Exit → Act → World → Prop}
    (hgf : ∀ r, evO (pat live r 0 n) g = some (.func (.func gf) caps)) (eg : Enters E.P gf) (hin : inB assign = true) (fz0 fz fz2 : List Nat)
    (hseq : ∀ lb, RelL E.rows (nums Hr) caps lb → Seq E.P gf lb.toArray encs xs (Sin S0 n0 fz Hr w) w)
    (xA : Nat → α → List AV) (hx : ∀ k x, xs[k]? = some x → AV.plains? (xA k x) = some (encs k x).toList) (hps : ∀ k x, (encs k x).size = ps.size)
    (Hk : Nat → Mem) (h0 : Hk 0 = H) (hlen : ∀ k, (Hk k).length = H.length)
    (J : Nat → World → Prop) (hJ : AnyFrom n0 J) (Jx : World → Prop) (hJx : AnyN n0 Jx) (cx : Code)
    (live1 : Nat → α → List (Nat × AV)) (H1 : Nat → α → Mem) (hf1 : ∀ l, memN l fz = true → memN l fz2 = true) (hf2 : ∀ k x l, H.length ≤ l → l < (H1 k x).length → memN l fz2 = true)
    (hassign : ∀ k x r, xs[k]? = some x → Is (evT E nf (.code assign) ⟨setps (pat live r 0 n) ps.toList (xA k x), ⟨Hk k, [], wrZ fz⟩⟩ (chE .normal (live1 k x) n (H1 k x) []))) (hnm : ∀ k x, noMap ((H1 k x).drop H.length) = true)
    (hbody : ∀ l' k x V a1 Hr1, xs[k]? = some x → PatSt E.rows [] (live1 k x) n ⟨H1 k x, [], wrZ fz2⟩ a1 Hr1 → It E.rows (nums Hr) n0 S0 (Sin S0 n0 fz Hr w) w.heap.size fz2 V (J k) (H1 k x) Hr1 V → Keep S0 w V →
      body.wpIn (Fence.wide.inRound l') 0 E.P (eachPost w.heap.size (Sin S0 n0 fz Hr w) (fun k V => ItR E.rows S0 Hr w (Hk k) (J k) V) (fun c _ V => c = cx ∧ Jx V) (k + 1) V) a1 V)
    (hP : PatSt E.rows D live n ⟨H, [], wr'⟩ a Hr) (hB : It E.rows base n0 S0 S0 n0 fz0 W0 (J 0) H Hr w) (hf0 : ∀ l, memN l fz0 = true → memN l fz = true) (hS0 : ∀ k, S0 k → k < n0) (hRS : ∀ j r, E.rows j = some r → 0 < r.n → ∀ b off, r.A = some ⟨b, off, none⟩ → S0 b)
    (hdone : ∀ W', J xs.length W' → W'.heap[w.heap.size]? = some (.deferred (some [])) → Q .normal { a with defers := { target := .collected w.heap.size, args := #[] } :: a.defers } W')
    (hstop : ∀ W', Jx W' → W'.heap[w.heap.size]? = some (.deferred (some [])) → cx.wp E.P Q { a with defers := { target := .collected w.heap.size, args := #[] } :: a.defers } W') :
    (Code.rangeFunc g ps assign body).wp E.P Q a w := by
  have hn0 : n0 ≤ w.heap.size := by have := hB.n0v; have := hB.keep.size; omega
  have hS0w : ∀ k, S0 k → k < w.heap.size := fun k hk => by have := hS0 k hk; omega
  obtain ⟨r, vs, rfl, ht, hBl, hnd⟩ := hP
  have hbl := hBl.len
  have hHr0 : (nums Hr).length = H.length := by rw [← hbl]; simp [nums]
  have hfl := evO_sound (D := D) ht _ _ (hgf r)
  generalize hge : (⟨vs.toArray, D⟩ : Act).eval g = gv at hfl
  cases hfl with | func hcaps =>
  rename_i lb
  have hlab0 : ∀ (l : Nat) (q : Num), (nums Hr)[l]? = some q → q.ph = false → (n0 ≤ q.b ∨ (S0 q.b ∧ memN l fz = true)) ∧ q.b < w.heap.size := fun l q hq hp => ⟨(hB.lab l q hq hp).imp (·.1) (fun h => ⟨h.1, hf0 l h.2⟩), nums_lt hB.own.1 hBl.len hq hp⟩
  refine wp_each (w0 := w) (xs := xs) (encs := encs) (S := Sin S0 n0 fz Hr w) hge (fun args w => eg args w) (hseq lb hcaps) (fun k hk => hk.1) (Keep.refl _ _) hps
    (fun k V => ItR E.rows S0 Hr w (Hk k) (J k) V) (fun c _ V => c = cx ∧ Jx V) (itR_any hB.own.1 hBl.len hn0 hJ hS0w) (fun c k V V' row ⟨h1, h2⟩ hg hr => ⟨h1, hJx () V V' row h2 hg (fun r e => Nat.le_trans hn0 (hr r e))⟩)
    ⟨Hr, rfl, by rw [h0]; exact hBl, by rw [h0]; exact hnd, by rw [h0]; exact hB.own.1, hB.j, Keep.refl _ _⟩ ?round (fun W' ⟨_, _, _, _, _, hj, _⟩ hm => hdone W' hj hm) (fun c k W' _ ⟨hc, hj⟩ hm => by subst hc; exact hstop W' hj hm)
  rintro l k x V hxk ⟨Hr1, hn1, hrel, hap, hown, hj, hkw⟩ hl
  have hRdV : Rd E.rows (bs (nums Hr)) V := rd_keep hB.own.2 hkw hRS
  have hOK : OwnK E.rows (Hk k) Hr1 V := ⟨hown, by rw [hn1]; exact hRdV⟩
  have hR0 : RelSt E.rows [] ⟨setps (pat live r 0 n) ps.toList (xA k x), ⟨Hk k, [], wrZ fz⟩⟩ { tmps := (ps.zip (encs k x)).foldl (fun (t : Array Value) (x : Tmp × Value) => t.setIfInBounds x.1 x.2) vs.toArray, defers := [] } Hr1 := by
    refine ⟨setvs vs ps.toList (encs k x).toList, ?_, ?_, ?_, hap⟩
    · have := setvs_act ps.toList (encs k x).toList vs
      rw [Array.toArray_toList, Array.toArray_toList] at this
      rw [this]
    · rw [hn1]; exact setps_rel ht (RelL.of_plains (hx k x hxk))
    · rw [hn1]; exact hrel
  have hIt0 : It E.rows (nums Hr) n0 S0 (Sin S0 n0 fz Hr w) w.heap.size fz V (J k) (Hk k) Hr1 V := by
    refine ⟨hOK, fun l q hq hp => ?_, Nat.le_trans hn0 hkw.size, fun k hk => Nat.lt_of_lt_of_le hk.1 hkw.size, fun k hk l q hq hp hb => ?_, Keep.refl _ _, ⟨[], by rw [hn1]; simp⟩, hj⟩
    · rw [hn1] at hq
      obtain ⟨x1, x2⟩ := hlab0 l q hq hp
      exact x1.imp (fun h => ⟨h, .inl x2⟩) id
    · rw [hn1] at hq
      rcases hk.2 with hk | hk
      · rcases (hlab0 l q hq hp).1 with h | h
        · have := hS0 k hk; omega
        · exact h.2
      · exact hk.2 l q hq hp hb
  have hJk : AnyN n0 (J k) := fun _ V V' row h hg hr => hJ k V V' row h hg hr
  obtain ⟨e, st1, hk1, hwr1, hs1⟩ := ev_in hE l nf assign _ _ hin (hassign k x r hxk).is
  refine wpIn_mono (hs1 _ Hr1 V hR0 hOK) ?_
  rintro e' a1 V1 ⟨rfl, Hr2, hR2, hO2, hS2⟩
  unfold chE at hk1
  simp only [Prod.mk.injEq] at hk1
  obtain ⟨he, hn, hlv, hH, hds⟩ := hk1
  rw [eqE_eq he]
  have hIt1 := hIt0.stp hJk hO2 hS2
  have hP1 := patSt_of (live := live) hR2 hn (lives_of hlv)
  have hBl2 : RelB E.rows (nums Hr2) st1.m.H Hr2 := by obtain ⟨_, _, _, hb, _⟩ := hR2; exact hb
  obtain ⟨σ, hσ⟩ := hIt1.ext
  have hH2 : (nums Hr2).length = st1.m.H.length := by rw [← hBl2.len]; simp [nums]
  refine ⟨hIt1.keep, fun V2 => OwnM st1.m.H Hr2 V2 ∧ J k V2 ∧ Keep S0 w V2, ?_, ⟨hO2.1, hIt1.j, hkw.trans (hIt1.keep.mono fun k hk => .inl ⟨hS0w k hk, .inl hk⟩)⟩, ?_⟩
  · intro u W W' row ⟨ho, hjj, hkk⟩ hg hr
    refine ⟨fun l it q g1 g2 hq => ?_, hJ k W W' row hjj hg (fun r e => Nat.le_trans hn0 (hr r e).1), any_keep (β := Unit) (fun k hk => .inl (hS0w k hk)) () W W' row hkk hg (fun r e => (hr r e).1)⟩
    obtain ⟨x1, x2⟩ := ho l it q g1 g2 hq
    refine ⟨Nat.lt_of_lt_of_le x1 hg.size, fun hv => ?_⟩
    rw [hg.block q.b x1 fun e => by
      obtain ⟨hge', o, ho1, ho2⟩ := hr _ e.symm
      rw [x2 hv] at ho1
      cases ho1
      have hrel := hBl2.2 l it q g1 g2
      have g4 := nums_get g2
      have hqn : q.num.b = q.b := rfl
      have hq' := hq
      generalize q.num = qn at g4 hqn hq'
      cases hrel with
      | cells _ _ => simp [Obj.isCells] at ho2
      | row _ _ _ _ _ => simp [Obj.isCells] at ho2
      | row0 h0 => rw [h0] at hq; cases hq
      | map _ _ =>
        rcases Nat.lt_or_ge l H.length with hlt | hge2
        · rw [hσ, List.getElem?_append_left (by rw [hHr0]; exact hlt)] at g4
          have := (hlab0 l qn g4 hq').2
          simp only at hqn hge'
          omega
        · have hnm' := hnm k x
          rw [← hH] at hnm'
          exact noMap_get hnm' (l := l - H.length) (by rw [List.getElem?_drop, Nat.add_sub_cancel' hge2]; exact g1)
      | gone => cases hv]
    exact x2 hv
  · rintro V2 ⟨ho, hjj, hkk⟩
    refine hbody l k x V2 a1 Hr2 hxk (by rw [← hH]; exact hP1) ?_ hkk
    rw [← hH]
    refine ⟨⟨ho, ?_⟩, fun l q hq hp => ?_, Nat.le_trans hn0 hkk.size, fun k hk => Nat.lt_of_lt_of_le hk.1 hkk.size, fun k hk l q hq hp hb => ?_, Keep.refl _ _, ⟨σ, hσ⟩, hjj⟩
    · intro j rr hj b off hA h0
      obtain ⟨y1, _, _⟩ := hO2.2 j rr hj b off hA h0
      obtain ⟨_, z2, z3⟩ := rd_keep hB.own.2 hkk hRS j rr hj b off hA h0
      exact ⟨y1, z2, z3⟩
    · refine (hIt1.lab l q hq hp).imp (fun h => ⟨h.1, ?_⟩) (fun h => ⟨h.1, hf1 l h.2⟩)
      rcases Nat.lt_or_ge l H.length with hlt | hge
      · rw [hσ, List.getElem?_append_left (by rw [hHr0]; exact hlt)] at hq
        exact .inl (hlab0 l q hq hp).2
      · exact .inr (.inr (hf2 k x l hge (by rw [← hH, ← hH2]; exact (List.getElem?_eq_some_iff.1 hq).1)))
    · exact hf1 l (hIt1.frz k hk l q hq hp hb)
end
/-- The way in. -/
theorem it_enter {R : Rws} {P : Program} {f : FuncId} {fn : Func} {c : Code} (hf : P.funcs[f]? = some fn) (hb : fn.body = some c) {l : Nat} {caps : List AV} {lb : List Value} (hn : caps.length + 1 ≤ fn.ntmps) {Hr : List RBlk} {H : Mem} {W : World} {S0 : Nat → Prop} {fz : List Nat} {J : World → Prop} {Q : Ending → World → Prop} (ha : RelL R (nums Hr) caps lb) (hBl : RelB R (nums Hr) H Hr) (hA : Apart H Hr) (hO : OwnM H Hr W) (hRd : Rd R (bs (nums Hr)) W)
    (hlab : ∀ (l : Nat) (q : Num), (nums Hr)[l]? = some q → q.ph = false → S0 q.b ∧ memN l fz = true) (hS0 : ∀ k, S0 k → k < W.heap.size) (hj : J W)
    (h : ∀ a, a.defers = [] → PatSt R [] (inLive 0 (AV.func (.yield l) [] :: caps)) fn.ntmps ⟨H, [], wrZ fz⟩ a Hr → It R (nums Hr) W.heap.size S0 S0 W.heap.size fz W J H Hr W → c.wp P (bodyPostM Fence.wide 0 P fn Q) a W) : Calls P f (#[.func (.yield l) #[] #[]] ++ lb.toArray) W Q := by
  refine calls_marks hf hb (h _ rfl ?_ ⟨⟨hO, hRd⟩, fun l q hq hp => .inr (hlab l q hq hp), Nat.le_refl _, hS0, fun k hk l q hq hp _ => (hlab l q hq hp).2, Keep.refl _ _, ⟨[], by simp⟩, hj⟩)
  have hl := ha.len
  have hR : RelSt R [] ⟨(AV.func (.yield l) [] :: caps) ++ List.replicate (fn.ntmps - (caps.length + 1)) undefA, ⟨H, [], wrZ fz⟩⟩ ⟨(#[Value.func (.yield l) #[] #[]] ++ lb.toArray) ++ Array.replicate (fn.ntmps - (#[Value.func (.yield l) #[] #[]] ++ lb.toArray).size) undef, []⟩ Hr := by
    refine ⟨(Value.func (.yield l) #[] #[] :: lb) ++ List.replicate (fn.ntmps - (caps.length + 1)) undef, ?_, RelL.append (RelL.cons (Rel.func (vs := []) .nil) ha) (RelL.rep .raw _), hBl, hA⟩
    congr 1
    apply Array.toList_inj.1
    simp [hl, Nat.add_comm]
  exact patSt_of (live := []) hR (by simp; omega) (fun i v hv => by
    obtain ⟨_, h2⟩ := look_in hv
    simp only [Nat.sub_zero] at h2
    rw [List.getElem?_append_left (List.getElem?_eq_some_iff.1 h2).1]; exact h2)
/-- A call of yield, as the outer range tells it. -/
theorem yield_at {P : Program} {l k : Nat} {args : Array Value} {V : World} {S S0 : Nat → Prop} {n0 : Nat} {J Jx : Nat → World → Prop} (h : YieldAt Fence.wide 0 P l args V fun e W' => (e = .returned (.bool true) ∧ J (k + 1) W' ∧ Keep (fun b => S b ∨ n0 ≤ b) V W') ∨ (e = .returned (.bool false) ∧ Jx (k + 1) W' ∧ Keep (fun b => n0 ≤ b) V W')) (hS : ∀ b, S0 b → S b) : YieldAt Fence.wide 0 P l args V (YPost S0 n0 (J (k + 1)) (Jx (k + 1)) V) := by
  obtain ⟨fn, tmps, assign, body, h1, h2⟩ := h
  refine ⟨fn, tmps, assign, body, h1, h2.mono fun e W' he => ?_⟩
  rcases he with ⟨a, b, c⟩ | he
  · exact .inl ⟨a, b, c.mono fun q hq => hq.imp (hS q) id⟩
  · exact .inr he
def isSc : Code → Bool
  | .scope _ => true
  | _ => false
def scB : Code → Code
  | .scope c => c
  | c => c
def isRf : Code → Bool
  | .rangeFunc _ _ _ _ => true
  | _ => false
def rfG : Code → Operand
  | .rangeFunc g _ _ _ => g
  | _ => .const undef
def rfP : Code → Array Tmp
  | .rangeFunc _ p _ _ => p
  | _ => #[]
def rfA : Code → Code
  | .rangeFunc _ _ a _ => a
  | c => c
def rfB : Code → Code
  | .rangeFunc _ _ _ b => b
  | c => c
def isDr : Code → Bool
  | .region _ _ true => true
  | _ => false
def isLs : Code → Bool
  | .region _ _ false => true
  | _ => false
def rgOps : Code → List Oper
  | .region _ ops _ => ops.toList
  | _ => []
section
variable {P : Program} {F : Fence} {c : Code} {Q : Exit → Act → World → Prop} {a : Act} {w : World}
theorem wp_sc (hc : isSc c = true) (h : (scB c).wp P (Exit.noGoto Q) a w) : c.wp P Q a w := by
  cases c <;> first | exact wp_scope_straight h | cases hc
theorem in_parts (hc : isSq c = true) (h : (sL c).wpIn F 0 P (Exit.then ((sR c).wpIn F 0 P Q) Q) a w) : c.wpIn F 0 P Q a w := by
  cases c <;> first | exact wpIn_seq h | cases hc
theorem in_bk (hc : isBk c = true) (h : (bkB c).wpIn F 0 P (Exit.inBlock (bkI c) Q) a w) : c.wpIn F 0 P Q a w := by
  cases c <;> first | exact wpIn_block h | cases hc
theorem in_lp (hc : isLp c = true) (h : (Code.loop (lpB c)).wpIn F 0 P Q a w) : c.wpIn F 0 P Q a w := by
  cases c <;> first | exact h | cases hc
theorem in_ls (hc : isLs c = true) (h : wpListIn F 0 P (rgOps c).toArray Q (rgOps c) a w) : c.wpIn F 0 P Q a w := by
  cases c <;> try cases hc
  rename_i id ops d
  cases d
  · exact wpIn_region_list (by simpa [rgOps] using h)
  · cases hc
theorem in_dr (hc : isDr c = true) (h : ∀ id, (Code.region id (rgOps c).toArray true).wpIn F 0 P Q a w) : c.wpIn F 0 P Q a w := by
  cases c <;> try cases hc
  rename_i id ops d
  cases d
  · cases hc
  · have := h id
    simpa [rgOps] using this
theorem wp_in (h : c.wpIn Fence.wide 0 P Q a w) : c.wp P Q a w := (wpIn_wide (n := 0)).1 h
theorem in_nil (h : Q .normal a w) {ops : Array Oper} : wpListIn F 0 P ops Q [] a w := h
theorem no_then {K : Act → World → Prop} (h : ¬ LetsOut Q) : ¬ LetsOut (Exit.then K Q) := fun ⟨a, w, h'⟩ => h ⟨a, w, h'⟩
theorem no_bk {i : Nat} (h : ¬ LetsOut Q) : ¬ LetsOut (Exit.inBlock i Q) := fun ⟨a, w, h'⟩ => h ⟨a, w, h'⟩
theorem no_each {B : Nat} {S : Nat → Prop} {I : Nat → World → Prop} {Ix : Code → Nat → World → Prop} {k : Nat} {W : World} : ¬ LetsOut (eachPost B S I Ix k W) := fun ⟨_, _, h⟩ => h
end
theorem rf_eq {c : Code} (hc : isRf c = true) : c = .rangeFunc (rfG c) (rfP c) (rfA c) (rfB c) := by
  cases c <;> first | rfl | cases hc
end

section
attribute [local go_sem] Oper.semAt_some

abbrev encN : Nat → Nat → Array Value := fun _ x => #[.int .i64 (x : Int)]
def PlRel (J : Nat → World → Prop) (n : Nat) (S : Nat → Prop) (w0 : World) (i : Value) (wr : World) : Prop := ∃ k : Nat, k ≤ n ∧ i = .int .i64 k ∧ J k wr ∧ Keep S w0 wr
set_option maxHeartbeats 4000000 in
theorem places1_seq (b n : Nat) (w0 : World) (S : Nat → Prop) (hc : w0.cell? ⟨b, 0, none⟩ = some (.int .i64 (n : Int))) (hn : n ≤ 100000) (hb : S b) :
    Seq Tryd.prog 48 #[.pointer (some ⟨b, 0, none⟩)] encN (List.range n) S w0 := by
  intro l J Jx W hW hJ hJx hY h0
  have hcW : W.cell? ⟨b, 0, none⟩ = some (.int .i64 (n : Int)) := hW.cell hc hb
  have HY := Lib.hid hY
  have HJ := Lib.hid hJ
  have HX := Lib.hid hJx
  clear hY hJ hJx
  rw [List.length_range]
  refine (callsIn_wide (n := 0)).1 (callsIn_of_wp Tryd.func48 rfl trivial ?_ rfl)
  simp only [Tryd.ntmps48, List.size_toArray, List.length_cons, List.length_nil, Nat.reduceAdd, Nat.reduceSub, Array.replicate_succ, Array.replicate_zero, List.push_toArray, List.append_toArray, List.nil_append, List.cons_append]
  gi_wp2
  gi_loopw [5] (fun i wr => PlRel J n S w0 i wr) (fun i _ => n - (intOf i).toNat)
  case atStart => exact ⟨0, Nat.zero_le _, rfl, h0, hW⟩
  case round =>
    obtain ⟨k, hk, rfl, hj, hb⟩ := hrel
    by_cases hlt' : k < n
    · obtain ⟨fn, tmps, assign, body, hy, hR⟩ := HY.out k k _ (by simp [hlt']) hj
      try simp only [encN] at hy
      gi_wp2
      refine ⟨rfl, ?_⟩
      refine hR.mono ?_
      rintro e W' (⟨rfl, hJ', hk'⟩ | ⟨rfl, hJx', _⟩)
      · have hb3 := hb.trans (hk'.mono (fun _ h => .inl h))
        clear hk' hy hR hb
        gi_wp2
        exact ⟨⟨k + 1, by omega, by go_num, hJ', hb3⟩, by simp [intOf]; omega⟩
      · clear hy hR hb
        gi_wp2
        refine bodyPost_ret (results_none rfl _ _ _) rfl ?_
        exact ⟨⟨_, rfl⟩, .inr ⟨k + 1, by omega, hJx'⟩⟩
    · obtain rfl : k = n := by omega
      gi_wp2
      go_end0
      exact ⟨⟨_, rfl⟩, .inl hj⟩
abbrev encQ (x : BitVec 256) : Nat → Nat → Array Value := fun _ i => #[.int .i64 (i : Int), .int .u64 (L x i)]
theorem pa_0 (l : Nat) (x : BitVec 256) : ∀ r, Is (evT (mkEnv noRows []) 60 (.code (sL (Tryd.f36.body.getD .skip))) ⟨pat (inLive 0 [.func (.yield l) [], .ptr 0 0]) r 0 Tryd.f36.ntmps, ⟨[AIt.cells (wC x) 26], [], wrZ [0]⟩⟩ (chE .normal [(1, .ptr 0 0), (2, .ptr 1 0)] Tryd.f36.ntmps [AIt.cells (wC x) 26, AIt.cells [.func (.yield l) []] 71] [])) := fun r => ev_eq [] (true, Tryd.f36.ntmps, ([(1, .ptr 0 0), (2, .ptr 1 0)] : List (Nat × AV)).map (fun p => some p.2), ([AIt.cells (wC x) 26, AIt.cells [.func (.yield l) []] 71] : Mem), ([] : List Bool)) (by kernel_rfl) trivial
theorem pa_1 (l : Nat) (x : BitVec 256) : ∀ r, Is (evT (mkEnv noRows []) 60 (.code (sL (scB (sR (Tryd.f36.body.getD .skip))))) ⟨pat [(1, .ptr 0 0), (2, .ptr 1 0)] r 0 Tryd.f36.ntmps, ⟨[AIt.cells (wC x) 26, AIt.cells [.func (.yield l) []] 71], [], wrZ [0]⟩⟩ (chE .normal [(1, .ptr 0 0), (2, .ptr 1 0)] Tryd.f36.ntmps [AIt.cells (wC x) 26, AIt.cells [.func (.yield l) []] 71] [])) := fun r => ev_eq [] (true, Tryd.f36.ntmps, ([(1, .ptr 0 0), (2, .ptr 1 0)] : List (Nat × AV)).map (fun p => some p.2), ([AIt.cells (wC x) 26, AIt.cells [.func (.yield l) []] 71] : Mem), ([] : List Bool)) (by kernel_rfl) trivial
theorem pa_2 (l : Nat) (x : BitVec 256) : ∀ r, Is (evT (mkEnv noRows []) 60 (.code (sL (sR (scB (sR (Tryd.f36.body.getD .skip)))))) ⟨pat [(1, .ptr 0 0), (2, .ptr 1 0)] r 0 Tryd.f36.ntmps, ⟨[AIt.cells (wC x) 26, AIt.cells [.func (.yield l) []] 71], [], wrZ [0]⟩⟩ (chE .normal [(1, .ptr 0 0), (2, .ptr 1 0), (4, .func (.func 48) [.ptr 2 0])] Tryd.f36.ntmps [AIt.cells (wC x) 26, AIt.cells [.func (.yield l) []] 71, AIt.cells [.int .i64 true 4] 3] [])) := fun r => ev_eq [] (true, Tryd.f36.ntmps, ([(1, .ptr 0 0), (2, .ptr 1 0), (4, .func (.func 48) [.ptr 2 0])] : List (Nat × AV)).map (fun p => some p.2), ([AIt.cells (wC x) 26, AIt.cells [.func (.yield l) []] 71, AIt.cells [.int .i64 true 4] 3] : Mem), ([] : List Bool)) (by kernel_rfl) trivial
noncomputable def paOps : List Oper := rgOps (sL (bkB (rfB (bkB (sR (sR (scB (sR (Tryd.f36.body.getD .skip)))))))))
noncomputable def paPlan : Plan := planAt (mkEnv noRows []).gen (mkEnv noRows []).eff paOps 5
theorem paPlan_ok : paPlan.ok paOps = true := by kernel_rfl
theorem pa_as (l : Nat) (x : BitVec 256) (i : Nat) : ∀ r, Is (evT (mkEnv noRows []) 60 (.code (rfA (bkB (sR (sR (scB (sR (Tryd.f36.body.getD .skip)))))))) ⟨setps (pat [(1, .ptr 0 0), (2, .ptr 1 0), (4, .func (.func 48) [.ptr 2 0])] r 0 Tryd.f36.ntmps) (rfP (bkB (sR (sR (scB (sR (Tryd.f36.body.getD .skip))))))).toList [.int .i64 true (i : Int)], ⟨[AIt.cells (wC x) 26, AIt.cells [.func (.yield l) []] 71, AIt.cells [.int .i64 true 4] 3], [], wrZ [0, 2]⟩⟩ (chE .normal [(1, .ptr 0 0), (2, .ptr 1 0), (3, .int .i64 true ((i : Nat) : Int))] Tryd.f36.ntmps [AIt.cells (wC x) 26, AIt.cells [.func (.yield l) []] 71, AIt.cells [.int .i64 true 4] 3] [])) := fun r => ev_eq [] (true, Tryd.f36.ntmps, ([(1, .ptr 0 0), (2, .ptr 1 0), (3, .int .i64 true ((i : Nat) : Int))] : List (Nat × AV)).map (fun p => some p.2), ([AIt.cells (wC x) 26, AIt.cells [.func (.yield l) []] 71, AIt.cells [.int .i64 true 4] 3] : Mem), ([] : List Bool)) (by kernel_rfl) trivial
theorem pa_h0 (l : Nat) (x : BitVec 256) : ∀ r, Is (headP (mkEnv noRows []) (callWith (mkEnv noRows []) (evT (mkEnv noRows []) 60)) ([AIt.cells (wC x) 26, AIt.cells [.func (.yield l) []] 71, AIt.cells [.int .i64 true 4] 3] : Mem).length (statOf (mkEnv noRows []) ⟨pat [(1, .ptr 0 0), (2, .ptr 1 0), (3, .int .i64 true ((0 : Nat) : Int))] r 0 Tryd.f36.ntmps, ⟨[AIt.cells (wC x) 26, AIt.cells [.func (.yield l) []] 71, AIt.cells [.int .i64 true 4] 3], [], wrZ [0, 2]⟩⟩ paOps paPlan.n paPlan.ord) paOps paPlan.ord ⟨pat [(1, .ptr 0 0), (2, .ptr 1 0), (3, .int .i64 true ((0 : Nat) : Int))] r 0 Tryd.f36.ntmps, ⟨[AIt.cells (wC x) 26, AIt.cells [.func (.yield l) []] 71, AIt.cells [.int .i64 true 4] 3], [], wrZ [0, 2]⟩⟩ (chK [(6, .func (.yield l) []), (7, .int .i64 true ((0 : Nat) : Int)), (10, .bv .u64 (limb x 0))] Tryd.f36.ntmps [AIt.cells (wC x) 26, AIt.cells [.func (.yield l) []] 71, AIt.cells [.int .i64 true 4] 3] [] .normal)) := fun r => ev_eq [] (chR [(6, .func (.yield l) []), (7, .int .i64 true ((0 : Nat) : Int)), (10, .bv .u64 (limb x 0))] Tryd.f36.ntmps [AIt.cells (wC x) 26, AIt.cells [.func (.yield l) []] 71, AIt.cells [.int .i64 true 4] 3] []) (by kernel_rfl) trivial
theorem pa_h1 (l : Nat) (x : BitVec 256) : ∀ r, Is (headP (mkEnv noRows []) (callWith (mkEnv noRows []) (evT (mkEnv noRows []) 60)) ([AIt.cells (wC x) 26, AIt.cells [.func (.yield l) []] 71, AIt.cells [.int .i64 true 4] 3] : Mem).length (statOf (mkEnv noRows []) ⟨pat [(1, .ptr 0 0), (2, .ptr 1 0), (3, .int .i64 true ((1 : Nat) : Int))] r 0 Tryd.f36.ntmps, ⟨[AIt.cells (wC x) 26, AIt.cells [.func (.yield l) []] 71, AIt.cells [.int .i64 true 4] 3], [], wrZ [0, 2]⟩⟩ paOps paPlan.n paPlan.ord) paOps paPlan.ord ⟨pat [(1, .ptr 0 0), (2, .ptr 1 0), (3, .int .i64 true ((1 : Nat) : Int))] r 0 Tryd.f36.ntmps, ⟨[AIt.cells (wC x) 26, AIt.cells [.func (.yield l) []] 71, AIt.cells [.int .i64 true 4] 3], [], wrZ [0, 2]⟩⟩ (chK [(6, .func (.yield l) []), (7, .int .i64 true ((1 : Nat) : Int)), (10, .bv .u64 (limb x 1))] Tryd.f36.ntmps [AIt.cells (wC x) 26, AIt.cells [.func (.yield l) []] 71, AIt.cells [.int .i64 true 4] 3] [] .normal)) := fun r => ev_eq [] (chR [(6, .func (.yield l) []), (7, .int .i64 true ((1 : Nat) : Int)), (10, .bv .u64 (limb x 1))] Tryd.f36.ntmps [AIt.cells (wC x) 26, AIt.cells [.func (.yield l) []] 71, AIt.cells [.int .i64 true 4] 3] []) (by kernel_rfl) trivial
theorem pa_h2 (l : Nat) (x : BitVec 256) : ∀ r, Is (headP (mkEnv noRows []) (callWith (mkEnv noRows []) (evT (mkEnv noRows []) 60)) ([AIt.cells (wC x) 26, AIt.cells [.func (.yield l) []] 71, AIt.cells [.int .i64 true 4] 3] : Mem).length (statOf (mkEnv noRows []) ⟨pat [(1, .ptr 0 0), (2, .ptr 1 0), (3, .int .i64 true ((2 : Nat) : Int))] r 0 Tryd.f36.ntmps, ⟨[AIt.cells (wC x) 26, AIt.cells [.func (.yield l) []] 71, AIt.cells [.int .i64 true 4] 3], [], wrZ [0, 2]⟩⟩ paOps paPlan.n paPlan.ord) paOps paPlan.ord ⟨pat [(1, .ptr 0 0), (2, .ptr 1 0), (3, .int .i64 true ((2 : Nat) : Int))] r 0 Tryd.f36.ntmps, ⟨[AIt.cells (wC x) 26, AIt.cells [.func (.yield l) []] 71, AIt.cells [.int .i64 true 4] 3], [], wrZ [0, 2]⟩⟩ (chK [(6, .func (.yield l) []), (7, .int .i64 true ((2 : Nat) : Int)), (10, .bv .u64 (limb x 2))] Tryd.f36.ntmps [AIt.cells (wC x) 26, AIt.cells [.func (.yield l) []] 71, AIt.cells [.int .i64 true 4] 3] [] .normal)) := fun r => ev_eq [] (chR [(6, .func (.yield l) []), (7, .int .i64 true ((2 : Nat) : Int)), (10, .bv .u64 (limb x 2))] Tryd.f36.ntmps [AIt.cells (wC x) 26, AIt.cells [.func (.yield l) []] 71, AIt.cells [.int .i64 true 4] 3] []) (by kernel_rfl) trivial
theorem pa_h3 (l : Nat) (x : BitVec 256) : ∀ r, Is (headP (mkEnv noRows []) (callWith (mkEnv noRows []) (evT (mkEnv noRows []) 60)) ([AIt.cells (wC x) 26, AIt.cells [.func (.yield l) []] 71, AIt.cells [.int .i64 true 4] 3] : Mem).length (statOf (mkEnv noRows []) ⟨pat [(1, .ptr 0 0), (2, .ptr 1 0), (3, .int .i64 true ((3 : Nat) : Int))] r 0 Tryd.f36.ntmps, ⟨[AIt.cells (wC x) 26, AIt.cells [.func (.yield l) []] 71, AIt.cells [.int .i64 true 4] 3], [], wrZ [0, 2]⟩⟩ paOps paPlan.n paPlan.ord) paOps paPlan.ord ⟨pat [(1, .ptr 0 0), (2, .ptr 1 0), (3, .int .i64 true ((3 : Nat) : Int))] r 0 Tryd.f36.ntmps, ⟨[AIt.cells (wC x) 26, AIt.cells [.func (.yield l) []] 71, AIt.cells [.int .i64 true 4] 3], [], wrZ [0, 2]⟩⟩ (chK [(6, .func (.yield l) []), (7, .int .i64 true ((3 : Nat) : Int)), (10, .bv .u64 (limb x 3))] Tryd.f36.ntmps [AIt.cells (wC x) 26, AIt.cells [.func (.yield l) []] 71, AIt.cells [.int .i64 true 4] 3] [] .normal)) := fun r => ev_eq [] (chR [(6, .func (.yield l) []), (7, .int .i64 true ((3 : Nat) : Int)), (10, .bv .u64 (limb x 3))] Tryd.f36.ntmps [AIt.cells (wC x) 26, AIt.cells [.func (.yield l) []] 71, AIt.cells [.int .i64 true 4] 3] []) (by kernel_rfl) trivial
theorem pa_t (l : Nat) (x : BitVec 256) (l2 : List (Nat × AV)) : ∀ r, Is (listP (mkEnv noRows []) (callWith (mkEnv noRows []) (evT (mkEnv noRows []) 60)) paOps (((paOps.drop paPlan.n).tail).take 1) ⟨pat ((11, .bool true true) :: l2) r 0 Tryd.f36.ntmps, ⟨[AIt.cells (wC x) 26, AIt.cells [.func (.yield l) []] 71, AIt.cells [.int .i64 true 4] 3], [], wrZ [0, 2]⟩⟩ (chK [(12, .bool true false)] Tryd.f36.ntmps [AIt.cells (wC x) 26, AIt.cells [.func (.yield l) []] 71, AIt.cells [.int .i64 true 4] 3] [] .normal)) := fun r => ev_eq [] (chR [(12, .bool true false)] Tryd.f36.ntmps [AIt.cells (wC x) 26, AIt.cells [.func (.yield l) []] 71, AIt.cells [.int .i64 true 4] 3] []) (by kernel_rfl) trivial
theorem pa_f  : ∀ r, Is (listP (mkEnv noRows []) (callWith (mkEnv noRows []) (evT (mkEnv noRows []) 60)) paOps (((paOps.drop paPlan.n).tail).take 1) ⟨pat [(11, .bool true false)] r 0 Tryd.f36.ntmps, ⟨[], [], wrZ [0, 2]⟩⟩ (chK [(12, .bool true true)] Tryd.f36.ntmps [] [] .normal)) := fun r => ev_eq [] (chR [(12, .bool true true)] Tryd.f36.ntmps [] []) (by kernel_rfl) trivial
theorem pa_tc (l : Nat) (x : BitVec 256) : ∀ r, Is (evT (mkEnv noRows []) 60 (.code (sR (bkB (rfB (bkB (sR (sR (scB (sR (Tryd.f36.body.getD .skip)))))))))) ⟨pat [(12, .bool true false)] r 0 Tryd.f36.ntmps, ⟨[AIt.cells (wC x) 26, AIt.cells [.func (.yield l) []] 71, AIt.cells [.int .i64 true 4] 3], [], wrZ [0, 2]⟩⟩ (chE .normal [] Tryd.f36.ntmps [AIt.cells (wC x) 26, AIt.cells [.func (.yield l) []] 71, AIt.cells [.int .i64 true 4] 3] [])) := fun r => ev_eq [] (true, Tryd.f36.ntmps, ([] : List (Nat × AV)).map (fun p => some p.2), ([AIt.cells (wC x) 26, AIt.cells [.func (.yield l) []] 71, AIt.cells [.int .i64 true 4] 3] : Mem), ([] : List Bool)) (by kernel_rfl) trivial
theorem pa_fc  : ∀ r, Is (evT (mkEnv noRows []) 60 (.code (sR (bkB (rfB (bkB (sR (sR (scB (sR (Tryd.f36.body.getD .skip)))))))))) ⟨pat [(12, .bool true true)] r 0 Tryd.f36.ntmps, ⟨[], [], wrZ [0, 2]⟩⟩ (chE (.exit 0) [] Tryd.f36.ntmps [] [])) := fun r => ev_eq [] (true, Tryd.f36.ntmps, ([] : List (Nat × AV)).map (fun p => some p.2), ([] : Mem), ([] : List Bool)) (by kernel_rfl) trivial
theorem pa_nil : ((paOps.drop paPlan.n).tail).drop 1 = [] := by kernel_rfl
set_option maxHeartbeats 8000000 in
theorem parts1_seq (b : Nat) (x : BitVec 256) (w0 : World) (S : Nat → Prop) (hc : Blk w0 b #[.int .u64 (L x 0), .int .u64 (L x 1), .int .u64 (L x 2), .int .u64 (L x 3)] 26) (hb : S b) :
    Seq Tryd.prog 36 #[.pointer (some ⟨b, 0, none⟩)] (encQ x) (List.range 4) S w0 := by
  intro l J Jx W hW hJ hJx hY h0
  have hcW := hW.blk hc hb
  have hblk : W.heap[b]? = some (.cells #[.int .u64 (L x 0), .int .u64 (L x 1), .int .u64 (L x 2), .int .u64 (L x 3)] 26 (0, 0)) := hcW
  have hJ0 : ∀ k, AnyN W.heap.size (J k) := fun k _ V V' row h hg hr => hJ k V V' row h hg hr
  have hS0 : ∀ k, (S k ∧ k < W.heap.size) → k < W.heap.size := fun k h => h.2
  refine it_enter (R := noRows) (P := Tryd.prog) (fn := Tryd.f36) (c := (Tryd.f36.body.getD .skip)) Tryd.func36 (by kernel_rfl) (l := l) (caps := [.ptr 0 0]) (lb := [.pointer (some ⟨b, 0, none⟩)]) (show 1 + 1 ≤ Tryd.f36.ntmps by decide) (Hr := [⟨b, 0, .cells #[.int .u64 (L x 0), .int .u64 (L x 1), .int .u64 (L x 2), .int .u64 (L x 3)] 26 (0, 0)⟩]) (H := [AIt.cells (wC x) 26]) (S0 := fun k => S k ∧ k < W.heap.size) (fz := [0]) (J := J 0)
    (.cons (Rel.ptr (q := ⟨b, 0, 4⟩) rfl) .nil) ⟨rfl, fun k it p h1 h2 => ?_⟩ (fun k m it jt p q hne h1 h2 => ?_) (fun k it p h1 h2 hp => ?_) (rd_no _ _) (fun k q hq hp => ?_) hS0 h0 fun a had hP hB => ?_
  · cases k with
    | zero => cases h1; cases h2; exact .cells (RelL.of_vals (vals_wC x)) rfl
    | succ k => simp at h1
  · cases k with
    | zero => cases m with
      | zero => exact absurd rfl hne
      | succ m => simp at h2
    | succ k => simp at h1
  · cases k with
    | zero => cases h2; exact ⟨hcW.lt, fun _ => hblk⟩
    | succ k => simp at h1
  · cases k with
    | zero => cases hq; exact ⟨⟨hb, hcW.lt⟩, rfl⟩
    | succ k => simp [nums] at hq
  refine wp_in (in_parts (by kernel_rfl) (it_code E0_ok (.inl rfl) (hJ0 0) 60 .normal (by kernel_rfl) (pa_0 l x) hP hB fun a1 Hr1 w1 hP1 hB1 => ?_))
  refine wpIn_wide.2 (wp_sc (by kernel_rfl) (wp_in (in_parts (by kernel_rfl) (it_code E0_ok (.inl rfl) (hJ0 0) 60 .normal (by kernel_rfl) (pa_1 l x) hP1 hB1 fun a2 Hr2 w2 hP2 hB2 => ?_))))
  refine in_parts (by kernel_rfl) (it_code E0_ok (.inl rfl) (hJ0 0) 60 .normal (by kernel_rfl) (pa_2 l x) hP2 hB2 fun a3 Hr3 w3 hP3 hB3 => ?_)
  refine in_bk (by kernel_rfl) (wpIn_wide.2 ?_)
  have hd3 : a3.defers = [] := by obtain ⟨_, vs, rfl, _⟩ := hP3; rfl
  have hBl3 : RelB noRows (nums Hr3) [AIt.cells (wC x) 26, AIt.cells [.func (.yield l) []] 71, AIt.cells [.int .i64 true 4] 3] Hr3 := by obtain ⟨_, vs, _, _, h, _⟩ := hP3; exact h
  have hA3 : Apart [AIt.cells (wC x) 26, AIt.cells [.func (.yield l) []] 71, AIt.cells [.int .i64 true 4] 3] Hr3 := by obtain ⟨_, vs, _, _, _, h⟩ := hP3; exact h
  rw [rf_eq (c := (bkB (sR (sR (scB (sR (Tryd.f36.body.getD .skip))))))) (by kernel_rfl)]
  refine it_each E0_ok 60 (xs := List.range 4) (encs := encN) (live := [(1, .ptr 0 0), (2, .ptr 1 0), (4, .func (.func 48) [.ptr 2 0])]) (n := Tryd.f36.ntmps) (H := [AIt.cells (wC x) 26, AIt.cells [.func (.yield l) []] 71, AIt.cells [.int .i64 true 4] 3]) (gf := 48) (caps := [.ptr 2 0]) (fun r => by kernel_rfl) (enters_of Tryd.func48 (by kernel_rfl) rfl) (by kernel_rfl) [0] [0, 2] [0, 2] ?hseq (fun _ i => [.int .i64 true (i : Int)]) (fun k i _ => rfl) (fun _ _ => rfl) (fun _ => [AIt.cells (wC x) 26, AIt.cells [.func (.yield l) []] 71, AIt.cells [.int .i64 true 4] 3]) rfl (fun _ => rfl) J hJ (fun V => ∃ j, j ≤ 4 ∧ Jx j V) (fun _ V V' row ⟨j, hj, h⟩ hg hr => ⟨j, hj, hJx j V V' row h hg hr⟩) (.exit 0)
    (fun _ i => [(1, .ptr 0 0), (2, .ptr 1 0), (3, .int .i64 true ((i : Nat) : Int))]) (fun _ _ => [AIt.cells (wC x) 26, AIt.cells [.func (.yield l) []] 71, AIt.cells [.int .i64 true 4] 3]) (fun _ h => h) (fun k i q h1 h2 => absurd h2 (by simpa using h1)) (fun k i r _ => pa_as l x i r) (fun _ _ => rfl) ?hbody hP3 hB3 (fun q h => by
      by_cases e : q = 0
      · subst e; rfl
      · simp [memN, Ne.symm e, Nat.beq_eq] at h ⊢; omega) (fun k hk => hk.2) (fun j r h => by cases h) ?hdone ?hstop
  case hseq =>
    intro lb hlb
    cases hlb with | cons h1 h2 =>
    cases h2
    obtain ⟨q, hq, rfl⟩ := rel_ptr h1
    obtain ⟨p, hp, rfl⟩ := nums_at hq
    have hrel := hBl3.2 2 _ p rfl hp
    have hph := hBl3.cph (l := 2) rfl hp
    obtain ⟨q1, q2⟩ := hB3.own.1 2 _ p rfl hp hph
    have hcell : w3.cell? ⟨p.b, 0, none⟩ = some (.int .i64 ((4 : Nat) : Int)) := by
      have hh := q2 rfl
      cases hrel with | cells hr _ =>
      cases hr with | cons r1 r2 =>
      cases r2; cases r1
      simp only [World.cell?, hh]
      rfl
    have hsf := sfz_of (fz := [0, 2]) hBl3 hA3 hB3.own.1 rfl (l := 2) rfl hp hph rfl
    refine places1_seq _ 4 w3 _ hcell (by omega) ⟨q1, .inr ⟨?_, hsf.2⟩⟩
    rcases hB3.lab 2 p.num (nums_get hp) hph with h | h
    · exact h.1
    · exact absurd h.2 (by decide)
  case hbody =>
    intro l' k i V a4 Hr4 hx hP4 hB4 hkw
    have hi : i = k ∧ k < 4 := by
      have h1 := (List.getElem?_eq_some_iff.1 hx).1
      rw [List.getElem?_range (by simpa using h1)] at hx
      exact ⟨(Option.some.inj hx).symm, by simpa using h1⟩
    obtain ⟨rfl, hk4⟩ := hi
    have hS0w : ∀ k, (S k ∧ k < W.heap.size) → k < w3.heap.size := fun k h => by have := hB3.keep.size; omega
    have hlen3 : Hr3.length = 3 := hBl3.1
    have fin : ∀ (live2 : List (Nat × AV)) (a5 : Act) (Hr5 : List RBlk) (w5 : World), (∀ r, evalY (pat live2 r 0 Tryd.f36.ntmps) (paOps.drop paPlan.n) = some (l, [.int .i64 true (i : Int), .bv .u64 (limb x i)], 11)) → live2.all (fun p => Nat.blt p.1 Tryd.f36.ntmps) = true → PatSt noRows [] live2 Tryd.f36.ntmps ⟨[AIt.cells (wC x) 26, AIt.cells [.func (.yield l) []] 71, AIt.cells [.int .i64 true 4] 3], [], wrZ [0, 2]⟩ a5 Hr5 → It noRows (nums Hr3) W.heap.size (fun k => S k ∧ k < W.heap.size) (Sin (fun k => S k ∧ k < W.heap.size) W.heap.size [0, 2] Hr3 w3) w3.heap.size [0, 2] V (J i) [AIt.cells (wC x) 26, AIt.cells [.func (.yield l) []] 71, AIt.cells [.int .i64 true 4] 3] Hr5 w5 → wpListIn (Fence.wide.inRound l') 0 Tryd.prog paOps.toArray (Exit.then ((sR (bkB (rfB (bkB (sR (sR (scB (sR (Tryd.f36.body.getD .skip))))))))).wpIn (Fence.wide.inRound l') 0 Tryd.prog (Exit.inBlock (bkI (rfB (bkB (sR (sR (scB (sR (Tryd.f36.body.getD .skip)))))))) (eachPost w3.heap.size (Sin (fun k => S k ∧ k < W.heap.size) W.heap.size [0, 2] Hr3 w3) (fun k V => ItR noRows (fun k => S k ∧ k < W.heap.size) Hr3 w3 [AIt.cells (wC x) 26, AIt.cells [.func (.yield l) []] 71, AIt.cells [.int .i64 true 4] 3] (J k) V) (fun c _ V => c = .exit 0 ∧ ∃ j, j ≤ 4 ∧ Jx j V) (i + 1) V))) (Exit.inBlock (bkI (rfB (bkB (sR (sR (scB (sR (Tryd.f36.body.getD .skip)))))))) (eachPost w3.heap.size (Sin (fun k => S k ∧ k < W.heap.size) W.heap.size [0, 2] Hr3 w3) (fun k V => ItR noRows (fun k => S k ∧ k < W.heap.size) Hr3 w3 [AIt.cells (wC x) 26, AIt.cells [.func (.yield l) []] 71, AIt.cells [.int .i64 true 4] 3] (J k) V) (fun c _ V => c = .exit 0 ∧ ∃ j, j ≤ 4 ∧ Jx j V) (i + 1) V))) (paOps.drop paPlan.n) a5 w5 := by
      intro live2 a5 Hr5 w5 hev hkeys hP5 hB5
      have hn0w : W.heap.size ≤ w3.heap.size := hB3.keep.size
      refine it_yield (.inr ⟨l', rfl⟩) hev (show 11 < Tryd.f36.ntmps by decide) hkeys (args := #[.int .i64 (i : Int), .int .u64 (L x i)]) (by rw [← limb_L]; rfl) (fun k hk => hk.2.imp id (·.1)) hn0w (fun j r h => by cases h) hP5 hB5 (yield_at (hY i i w5 hx hB5.j) (fun b h => h.1)) (fun a6 w6 hP6 hB6 => ?_) (fun a6 w6 hP6 hB6 => ?_)
      · refine it_ops E0_ok (.inr ⟨l', rfl⟩) (hJ0 (i + 1)) 60 1 (by kernel_rfl) (pa_t l x live2) hP6 hB6 fun a7 Hr7 w7 hP7 hB7 => ?_
        rw [pa_nil]
        refine in_nil (it_code E0_ok (.inr ⟨l', rfl⟩) (hJ0 (i + 1)) 60 .normal (by kernel_rfl) (pa_tc l x) hP7 hB7 fun a8 Hr8 w8 hP8 hB8 => ?_)
        exact it_end hP8 hB8 hkw hS0w (by rw [hlen3]; rfl) (by rw [hlen3]; rfl)
      · refine it_ops E0_ok (.inr ⟨l', rfl⟩) (J := Jx (i + 1)) (fun _ V V' row h hg hr => hJx _ V V' row h hg hr) 60 1 (by kernel_rfl) pa_f hP6 hB6 fun a7 Hr7 w7 hP7 hB7 => ?_
        rw [pa_nil]
        refine in_nil (it_code E0_ok (.inr ⟨l', rfl⟩) (J := Jx (i + 1)) (fun _ V V' row h hg hr => hJx _ V V' row h hg hr) 60 (.exit 0) (by kernel_rfl) pa_fc hP7 hB7 fun a8 Hr8 w8 hP8 hB8 => ?_)
        exact ⟨hB8.keep.mono fun k hk => .inr hk, rfl, i + 1, by omega, hB8.j⟩
    refine in_bk (by kernel_rfl) (in_parts (by kernel_rfl) (in_dr (by kernel_rfl) fun id => ?_))
    have no : ¬ LetsOut (Exit.then ((sR (bkB (rfB (bkB (sR (sR (scB (sR (Tryd.f36.body.getD .skip))))))))).wpIn (Fence.wide.inRound l') 0 Tryd.prog (Exit.inBlock (bkI (rfB (bkB (sR (sR (scB (sR (Tryd.f36.body.getD .skip)))))))) (eachPost w3.heap.size (Sin (fun k => S k ∧ k < W.heap.size) W.heap.size [0, 2] Hr3 w3) (fun k V => ItR noRows (fun k => S k ∧ k < W.heap.size) Hr3 w3 [AIt.cells (wC x) 26, AIt.cells [.func (.yield l) []] 71, AIt.cells [.int .i64 true 4] 3] (J k) V) (fun c _ V => c = .exit 0 ∧ ∃ j, j ≤ 4 ∧ Jx j V) (i + 1) V))) (Exit.inBlock (bkI (rfB (bkB (sR (sR (scB (sR (Tryd.f36.body.getD .skip)))))))) (eachPost w3.heap.size (Sin (fun k => S k ∧ k < W.heap.size) W.heap.size [0, 2] Hr3 w3) (fun k V => ItR noRows (fun k => S k ∧ k < W.heap.size) Hr3 w3 [AIt.cells (wC x) 26, AIt.cells [.func (.yield l) []] 71, AIt.cells [.int .i64 true 4] 3] (J k) V) (fun c _ V => c = .exit 0 ∧ ∃ j, j ≤ 4 ∧ Jx j V) (i + 1) V))) := no_then (no_bk no_each)
    rcases (by omega : i = 0 ∨ i = 1 ∨ i = 2 ∨ i = 3) with rfl | rfl | rfl | rfl
    · exact it_dhead E0_ok (.inr ⟨l', rfl⟩) (hJ0 0) 60 paPlan_ok (by kernel_rfl) no (pa_h0 l x) hP4 hB4 fun a5 Hr5 w5 hP5 hB5 => fin _ a5 Hr5 w5 (fun r => by kernel_rfl) (by kernel_rfl) hP5 hB5
    · exact it_dhead E0_ok (.inr ⟨l', rfl⟩) (hJ0 1) 60 paPlan_ok (by kernel_rfl) no (pa_h1 l x) hP4 hB4 fun a5 Hr5 w5 hP5 hB5 => fin _ a5 Hr5 w5 (fun r => by kernel_rfl) (by kernel_rfl) hP5 hB5
    · exact it_dhead E0_ok (.inr ⟨l', rfl⟩) (hJ0 2) 60 paPlan_ok (by kernel_rfl) no (pa_h2 l x) hP4 hB4 fun a5 Hr5 w5 hP5 hB5 => fin _ a5 Hr5 w5 (fun r => by kernel_rfl) (by kernel_rfl) hP5 hB5
    · exact it_dhead E0_ok (.inr ⟨l', rfl⟩) (hJ0 3) 60 paPlan_ok (by kernel_rfl) no (pa_h3 l x) hP4 hB4 fun a5 Hr5 w5 hP5 hB5 => fin _ a5 Hr5 w5 (fun r => by kernel_rfl) (by kernel_rfl) hP5 hB5
  case hdone =>
    intro V hj hD
    rw [hd3]
    exact end_mark1 hD (results_none rfl _ _ _) ⟨⟨_, rfl⟩, .inl (hJ 4 _ _ _ hj (grownBy_putObj' _ _ _) (fun r e => by cases e; exact hB3.keep.size))⟩
  case hstop =>
    rintro V ⟨j, hj4, hj⟩ hD
    refine wp_exit ?_
    rw [hd3]
    exact end_mark1 hD (results_none rfl _ _ _) ⟨⟨_, rfl⟩, .inr ⟨j, by simpa using hj4, hJx j _ _ _ hj (grownBy_putObj' _ _ _) (fun r e => by cases e; exact hB3.keep.size)⟩⟩
end

section
noncomputable abbrev cP : Code := (Tryd.f6.body.getD .skip)
noncomputable abbrev nP : Nat := Tryd.f6.ntmps
noncomputable def s3 : Code := dropSeq 3 cP
noncomputable def sB : Code := lpB (bkB (dropSeq 1 (sL s3)))
noncomputable def sB1 : Code := dropSeq 1 sB
noncomputable def sX : Code := bkB (sL sB1)
noncomputable def sX1 : Code := dropSeq 1 sX
noncomputable def sRg : Code := dropSeq 1 (sL sX1)
def mP (a : BitVec 256) (many : Int) : Mem := [AIt.cells (wC a) 26, AIt.cells [.int .i64 false many] 3, AIt.cells [.bool true false] 4, AIt.cells (wC a) 26]
end

section
theorem sp_a (a : BitVec 256) (many : Int) : ∀ r, Is (evCs (EL noRows) 60 (takeSeq 3 cP) ⟨pat (inLive 0 [wA a, .int .i64 false many]) r 0 nP, ⟨[], [], allW⟩⟩ (chK [(2, .ptr 0 0), (3, .ptr 1 0), (4, .ptr 2 0), (5, .func (.func 36) [.ptr 3 0])] nP (mP a many) [])) := fun r => ev_eq [] (chR [(2, .ptr 0 0), (3, .ptr 1 0), (4, .ptr 2 0), (5, .func (.func 36) [.ptr 3 0])] nP (mP a many) []) (by kernel_rfl) trivial
theorem sp_h (a : BitVec 256) (many : Int) : ∀ r, Is (evCs (EL noRows) 60 (takeSeq 1 (sL s3)) ⟨pat [(2, .ptr 0 0), (3, .ptr 1 0), (4, .ptr 2 0), (5, .func (.func 36) [.ptr 3 0])] r 0 nP, ⟨mP a many, [], allW⟩⟩ (chK [(2, .ptr 0 0), (3, .ptr 1 0), (4, .ptr 2 0), (5, .func (.func 36) [.ptr 3 0]), (6, .ptr 4 0)] nP (mP a many ++ [AIt.cells [.int .i64 true 0] 3]) [])) := fun r => ev_eq [] (chR [(2, .ptr 0 0), (3, .ptr 1 0), (4, .ptr 2 0), (5, .func (.func 36) [.ptr 3 0]), (6, .ptr 4 0)] nP (mP a many ++ [AIt.cells [.int .i64 true 0] 3]) []) (by kernel_rfl) trivial
theorem sp_f0 (a : BitVec 256) (many : Int) : ∀ r, Is (evCs (EL noRows) 60 (takeSeq 1 sB) ⟨pat [(2, .ptr 0 0), (3, .ptr 1 0), (4, .ptr 2 0), (5, .func (.func 36) [.ptr 3 0]), (6, .ptr 4 0)] r 0 nP, ⟨mP a many ++ [AIt.cells [.int .i64 true 0] 3], [], allW⟩⟩ (chK [(2, .ptr 0 0), (3, .ptr 1 0), (4, .ptr 2 0), (5, .func (.func 36) [.ptr 3 0]), (6, .ptr 4 0)] nP (mP a many ++ [AIt.cells [.int .i64 true 0] 3]) [])) := fun r => ev_eq [] (chR [(2, .ptr 0 0), (3, .ptr 1 0), (4, .ptr 2 0), (5, .func (.func 36) [.ptr 3 0]), (6, .ptr 4 0)] nP (mP a many ++ [AIt.cells [.int .i64 true 0] 3]) []) (by kernel_rfl) trivial
theorem sp_g0 (a : BitVec 256) (many : Int) : ∀ r, Is (evCs (EL noRows) 60 (takeSeq 1 sX) ⟨pat [(2, .ptr 0 0), (3, .ptr 1 0), (4, .ptr 2 0), (5, .func (.func 36) [.ptr 3 0]), (6, .ptr 4 0)] r 0 nP, ⟨mP a many ++ [AIt.cells [.int .i64 true 0] 3], [], allW⟩⟩ (chK [(2, .ptr 0 0), (3, .ptr 1 0), (4, .ptr 2 0), (5, .func (.func 36) [.ptr 3 0]), (6, .ptr 4 0), (7, .ptr 5 0)] nP (mP a many ++ [AIt.cells [.int .i64 true 0] 3, AIt.cells [.int .i64 true 0] 3]) [])) := fun r => ev_eq [] (chR [(2, .ptr 0 0), (3, .ptr 1 0), (4, .ptr 2 0), (5, .func (.func 36) [.ptr 3 0]), (6, .ptr 4 0), (7, .ptr 5 0)] nP (mP a many ++ [AIt.cells [.int .i64 true 0] 3, AIt.cells [.int .i64 true 0] 3]) []) (by kernel_rfl) trivial
theorem sp_h0 (a : BitVec 256) (many : Int) : ∀ r, Is (evCs (EL noRows) 60 (takeSeq 1 (sL sX1)) ⟨pat [(2, .ptr 0 0), (3, .ptr 1 0), (4, .ptr 2 0), (5, .func (.func 36) [.ptr 3 0]), (6, .ptr 4 0), (7, .ptr 5 0)] r 0 nP, ⟨mP a many ++ [AIt.cells [.int .i64 true 0] 3, AIt.cells [.int .i64 true 0] 3], [], allW⟩⟩ (chK [(2, .ptr 0 0), (3, .ptr 1 0), (4, .ptr 2 0), (5, .func (.func 36) [.ptr 3 0]), (6, .ptr 4 0), (7, .ptr 5 0), (18, .func (.func 36) [.ptr 3 0])] nP (mP a many ++ [AIt.cells [.int .i64 true 0] 3, AIt.cells [.int .i64 true 0] 3]) [])) := fun r => ev_eq [] (chR [(2, .ptr 0 0), (3, .ptr 1 0), (4, .ptr 2 0), (5, .func (.func 36) [.ptr 3 0]), (6, .ptr 4 0), (7, .ptr 5 0), (18, .func (.func 36) [.ptr 3 0])] nP (mP a many ++ [AIt.cells [.int .i64 true 0] 3, AIt.cells [.int .i64 true 0] 3]) []) (by kernel_rfl) trivial
theorem sp_r0t0 (a : BitVec 256) (many : Int) (v : Int) (h : AllE [(((((0 : Nat)) : Int) != v), false), ((limb a 0 != limb a 0), false), (decide (IntKind.wrap IntKind.i64 (v + 1) ≥ many), true)]) (r : Nat → Value) : Is (evR (EL noRows) 60 6 (rgA sRg) (rgB sRg) ⟨setps (pat [(2, .ptr 0 0), (3, .ptr 1 0), (4, .ptr 2 0), (5, .func (.func 36) [.ptr 3 0]), (6, .ptr 4 0), (7, .ptr 5 0), (18, .func (.func 36) [.ptr 3 0])] r 0 nP) (rgP sRg).toList [.int .i64 true (((0 : Nat)) : Int), .bv .u64 (limb a 0)], ⟨mP a many ++ [AIt.cells [.int .i64 true 0] 3, AIt.cells [.int .i64 false v] 3], [false, false, true], fun l => allW l && !memN l [3]⟩⟩ (rndK true (rgI sRg) 6 (mP a many ++ [AIt.cells [.int .i64 true 0] 3, AIt.cells [.int .i64 false (IntKind.i64.wrap (v + 1))] 3]))) :=
  ev_eq [(((((0 : Nat)) : Int) != v), false), ((limb a 0 != limb a 0), false), (decide (IntKind.wrap IntKind.i64 (v + 1) ≥ many), true)] (rndR true (mP a many ++ [AIt.cells [.int .i64 true 0] 3, AIt.cells [.int .i64 false (IntKind.i64.wrap (v + 1))] 3])) (by kernel_rfl) h
theorem sp_r0t1 (a : BitVec 256) (many : Int) (v : Int) (h : AllE [(((((1 : Nat)) : Int) != v), false), ((limb a 1 != limb a 1), false), (decide (IntKind.wrap IntKind.i64 (v + 1) ≥ many), true)]) (r : Nat → Value) : Is (evR (EL noRows) 60 6 (rgA sRg) (rgB sRg) ⟨setps (pat [(2, .ptr 0 0), (3, .ptr 1 0), (4, .ptr 2 0), (5, .func (.func 36) [.ptr 3 0]), (6, .ptr 4 0), (7, .ptr 5 0), (18, .func (.func 36) [.ptr 3 0])] r 0 nP) (rgP sRg).toList [.int .i64 true (((1 : Nat)) : Int), .bv .u64 (limb a 1)], ⟨mP a many ++ [AIt.cells [.int .i64 true 0] 3, AIt.cells [.int .i64 false v] 3], [false, false, true], fun l => allW l && !memN l [3]⟩⟩ (rndK true (rgI sRg) 6 (mP a many ++ [AIt.cells [.int .i64 true 0] 3, AIt.cells [.int .i64 false (IntKind.i64.wrap (v + 1))] 3]))) :=
  ev_eq [(((((1 : Nat)) : Int) != v), false), ((limb a 1 != limb a 1), false), (decide (IntKind.wrap IntKind.i64 (v + 1) ≥ many), true)] (rndR true (mP a many ++ [AIt.cells [.int .i64 true 0] 3, AIt.cells [.int .i64 false (IntKind.i64.wrap (v + 1))] 3])) (by kernel_rfl) h
theorem sp_r0t2 (a : BitVec 256) (many : Int) (v : Int) (h : AllE [(((((2 : Nat)) : Int) != v), false), ((limb a 2 != limb a 2), false), (decide (IntKind.wrap IntKind.i64 (v + 1) ≥ many), true)]) (r : Nat → Value) : Is (evR (EL noRows) 60 6 (rgA sRg) (rgB sRg) ⟨setps (pat [(2, .ptr 0 0), (3, .ptr 1 0), (4, .ptr 2 0), (5, .func (.func 36) [.ptr 3 0]), (6, .ptr 4 0), (7, .ptr 5 0), (18, .func (.func 36) [.ptr 3 0])] r 0 nP) (rgP sRg).toList [.int .i64 true (((2 : Nat)) : Int), .bv .u64 (limb a 2)], ⟨mP a many ++ [AIt.cells [.int .i64 true 0] 3, AIt.cells [.int .i64 false v] 3], [false, false, true], fun l => allW l && !memN l [3]⟩⟩ (rndK true (rgI sRg) 6 (mP a many ++ [AIt.cells [.int .i64 true 0] 3, AIt.cells [.int .i64 false (IntKind.i64.wrap (v + 1))] 3]))) :=
  ev_eq [(((((2 : Nat)) : Int) != v), false), ((limb a 2 != limb a 2), false), (decide (IntKind.wrap IntKind.i64 (v + 1) ≥ many), true)] (rndR true (mP a many ++ [AIt.cells [.int .i64 true 0] 3, AIt.cells [.int .i64 false (IntKind.i64.wrap (v + 1))] 3])) (by kernel_rfl) h
theorem sp_r0t3 (a : BitVec 256) (many : Int) (v : Int) (h : AllE [(((((3 : Nat)) : Int) != v), false), ((limb a 3 != limb a 3), false), (decide (IntKind.wrap IntKind.i64 (v + 1) ≥ many), true)]) (r : Nat → Value) : Is (evR (EL noRows) 60 6 (rgA sRg) (rgB sRg) ⟨setps (pat [(2, .ptr 0 0), (3, .ptr 1 0), (4, .ptr 2 0), (5, .func (.func 36) [.ptr 3 0]), (6, .ptr 4 0), (7, .ptr 5 0), (18, .func (.func 36) [.ptr 3 0])] r 0 nP) (rgP sRg).toList [.int .i64 true (((3 : Nat)) : Int), .bv .u64 (limb a 3)], ⟨mP a many ++ [AIt.cells [.int .i64 true 0] 3, AIt.cells [.int .i64 false v] 3], [false, false, true], fun l => allW l && !memN l [3]⟩⟩ (rndK true (rgI sRg) 6 (mP a many ++ [AIt.cells [.int .i64 true 0] 3, AIt.cells [.int .i64 false (IntKind.i64.wrap (v + 1))] 3]))) :=
  ev_eq [(((((3 : Nat)) : Int) != v), false), ((limb a 3 != limb a 3), false), (decide (IntKind.wrap IntKind.i64 (v + 1) ≥ many), true)] (rndR true (mP a many ++ [AIt.cells [.int .i64 true 0] 3, AIt.cells [.int .i64 false (IntKind.i64.wrap (v + 1))] 3])) (by kernel_rfl) h
theorem sp_r0f0 (a : BitVec 256) (many : Int) (v : Int) (h : AllE [(((((0 : Nat)) : Int) != v), false), ((limb a 0 != limb a 0), false), (decide (IntKind.wrap IntKind.i64 (v + 1) ≥ many), false)]) (r : Nat → Value) : Is (evR (EL noRows) 60 6 (rgA sRg) (rgB sRg) ⟨setps (pat [(2, .ptr 0 0), (3, .ptr 1 0), (4, .ptr 2 0), (5, .func (.func 36) [.ptr 3 0]), (6, .ptr 4 0), (7, .ptr 5 0), (18, .func (.func 36) [.ptr 3 0])] r 0 nP) (rgP sRg).toList [.int .i64 true (((0 : Nat)) : Int), .bv .u64 (limb a 0)], ⟨mP a many ++ [AIt.cells [.int .i64 true 0] 3, AIt.cells [.int .i64 false v] 3], [false, false, false], fun l => allW l && !memN l [3]⟩⟩ (rndK false (rgI sRg) 6 (mP a many ++ [AIt.cells [.int .i64 true 0] 3, AIt.cells [.int .i64 false (IntKind.i64.wrap (v + 1))] 3]))) :=
  ev_eq [(((((0 : Nat)) : Int) != v), false), ((limb a 0 != limb a 0), false), (decide (IntKind.wrap IntKind.i64 (v + 1) ≥ many), false)] (rndR false (mP a many ++ [AIt.cells [.int .i64 true 0] 3, AIt.cells [.int .i64 false (IntKind.i64.wrap (v + 1))] 3])) (by kernel_rfl) h
theorem sp_r0f1 (a : BitVec 256) (many : Int) (v : Int) (h : AllE [(((((1 : Nat)) : Int) != v), false), ((limb a 1 != limb a 1), false), (decide (IntKind.wrap IntKind.i64 (v + 1) ≥ many), false)]) (r : Nat → Value) : Is (evR (EL noRows) 60 6 (rgA sRg) (rgB sRg) ⟨setps (pat [(2, .ptr 0 0), (3, .ptr 1 0), (4, .ptr 2 0), (5, .func (.func 36) [.ptr 3 0]), (6, .ptr 4 0), (7, .ptr 5 0), (18, .func (.func 36) [.ptr 3 0])] r 0 nP) (rgP sRg).toList [.int .i64 true (((1 : Nat)) : Int), .bv .u64 (limb a 1)], ⟨mP a many ++ [AIt.cells [.int .i64 true 0] 3, AIt.cells [.int .i64 false v] 3], [false, false, false], fun l => allW l && !memN l [3]⟩⟩ (rndK false (rgI sRg) 6 (mP a many ++ [AIt.cells [.int .i64 true 0] 3, AIt.cells [.int .i64 false (IntKind.i64.wrap (v + 1))] 3]))) :=
  ev_eq [(((((1 : Nat)) : Int) != v), false), ((limb a 1 != limb a 1), false), (decide (IntKind.wrap IntKind.i64 (v + 1) ≥ many), false)] (rndR false (mP a many ++ [AIt.cells [.int .i64 true 0] 3, AIt.cells [.int .i64 false (IntKind.i64.wrap (v + 1))] 3])) (by kernel_rfl) h
theorem sp_r0f2 (a : BitVec 256) (many : Int) (v : Int) (h : AllE [(((((2 : Nat)) : Int) != v), false), ((limb a 2 != limb a 2), false), (decide (IntKind.wrap IntKind.i64 (v + 1) ≥ many), false)]) (r : Nat → Value) : Is (evR (EL noRows) 60 6 (rgA sRg) (rgB sRg) ⟨setps (pat [(2, .ptr 0 0), (3, .ptr 1 0), (4, .ptr 2 0), (5, .func (.func 36) [.ptr 3 0]), (6, .ptr 4 0), (7, .ptr 5 0), (18, .func (.func 36) [.ptr 3 0])] r 0 nP) (rgP sRg).toList [.int .i64 true (((2 : Nat)) : Int), .bv .u64 (limb a 2)], ⟨mP a many ++ [AIt.cells [.int .i64 true 0] 3, AIt.cells [.int .i64 false v] 3], [false, false, false], fun l => allW l && !memN l [3]⟩⟩ (rndK false (rgI sRg) 6 (mP a many ++ [AIt.cells [.int .i64 true 0] 3, AIt.cells [.int .i64 false (IntKind.i64.wrap (v + 1))] 3]))) :=
  ev_eq [(((((2 : Nat)) : Int) != v), false), ((limb a 2 != limb a 2), false), (decide (IntKind.wrap IntKind.i64 (v + 1) ≥ many), false)] (rndR false (mP a many ++ [AIt.cells [.int .i64 true 0] 3, AIt.cells [.int .i64 false (IntKind.i64.wrap (v + 1))] 3])) (by kernel_rfl) h
theorem sp_r0f3 (a : BitVec 256) (many : Int) (v : Int) (h : AllE [(((((3 : Nat)) : Int) != v), false), ((limb a 3 != limb a 3), false), (decide (IntKind.wrap IntKind.i64 (v + 1) ≥ many), false)]) (r : Nat → Value) : Is (evR (EL noRows) 60 6 (rgA sRg) (rgB sRg) ⟨setps (pat [(2, .ptr 0 0), (3, .ptr 1 0), (4, .ptr 2 0), (5, .func (.func 36) [.ptr 3 0]), (6, .ptr 4 0), (7, .ptr 5 0), (18, .func (.func 36) [.ptr 3 0])] r 0 nP) (rgP sRg).toList [.int .i64 true (((3 : Nat)) : Int), .bv .u64 (limb a 3)], ⟨mP a many ++ [AIt.cells [.int .i64 true 0] 3, AIt.cells [.int .i64 false v] 3], [false, false, false], fun l => allW l && !memN l [3]⟩⟩ (rndK false (rgI sRg) 6 (mP a many ++ [AIt.cells [.int .i64 true 0] 3, AIt.cells [.int .i64 false (IntKind.i64.wrap (v + 1))] 3]))) :=
  ev_eq [(((((3 : Nat)) : Int) != v), false), ((limb a 3 != limb a 3), false), (decide (IntKind.wrap IntKind.i64 (v + 1) ≥ many), false)] (rndR false (mP a many ++ [AIt.cells [.int .i64 true 0] 3, AIt.cells [.int .i64 false (IntKind.i64.wrap (v + 1))] 3])) (by kernel_rfl) h
theorem sp_i0 (a : BitVec 256) (many : Int) (u : Int) (h : AllE [((u != (if (if many > 1 then many else 1) < 4 then (if many > 1 then many else 1) else 4)), false)]) : ∀ r, Is (evT (EL noRows) 60 (.code (sR sX1)) ⟨pat [(2, .ptr 0 0), (3, .ptr 1 0), (4, .ptr 2 0), (5, .func (.func 36) [.ptr 3 0]), (6, .ptr 4 0), (7, .ptr 5 0), (18, .func (.func 36) [.ptr 3 0])] r 0 nP, ⟨mP a many ++ [AIt.cells [.int .i64 true 0] 3, AIt.cells [.int .i64 false u] 3], [false], allW⟩⟩ (chE .normal [(2, .ptr 0 0), (3, .ptr 1 0), (4, .ptr 2 0), (5, .func (.func 36) [.ptr 3 0]), (6, .ptr 4 0), (7, .ptr 5 0)] nP (mP a many ++ [AIt.cells [.int .i64 true 0] 3, AIt.cells [.int .i64 false u] 3]) [])) := fun r => ev_eq [((u != (if (if many > 1 then many else 1) < 4 then (if many > 1 then many else 1) else 4)), false)] (true, nP, ([(2, .ptr 0 0), (3, .ptr 1 0), (4, .ptr 2 0), (5, .func (.func 36) [.ptr 3 0]), (6, .ptr 4 0), (7, .ptr 5 0)] : List (Nat × AV)).map (fun p => some p.2), (mP a many ++ [AIt.cells [.int .i64 true 0] 3, AIt.cells [.int .i64 false u] 3] : Mem), ([] : List Bool)) (by kernel_rfl) h
theorem sp_j0 (a : BitVec 256) (many : Int) (u : Int) : ∀ r, Is (evT (EL noRows) 60 (.code (sR sB1)) ⟨pat [(2, .ptr 0 0), (3, .ptr 1 0), (4, .ptr 2 0), (5, .func (.func 36) [.ptr 3 0]), (6, .ptr 4 0), (7, .ptr 5 0)] r 0 nP, ⟨mP a many ++ [AIt.cells [.int .i64 true 0] 3, AIt.cells [.int .i64 false u] 3], [], allW⟩⟩ (chE .normal [(2, .ptr 0 0), (3, .ptr 1 0), (4, .ptr 2 0), (5, .func (.func 36) [.ptr 3 0]), (6, .ptr 6 0)] nP (mP a many ++ [AIt.cells [.int .i64 true 0] 3, AIt.cells [.int .i64 false u] 3, AIt.cells [.int .i64 true 1] 3]) [])) := fun r => ev_eq [] (true, nP, ([(2, .ptr 0 0), (3, .ptr 1 0), (4, .ptr 2 0), (5, .func (.func 36) [.ptr 3 0]), (6, .ptr 6 0)] : List (Nat × AV)).map (fun p => some p.2), (mP a many ++ [AIt.cells [.int .i64 true 0] 3, AIt.cells [.int .i64 false u] 3, AIt.cells [.int .i64 true 1] 3] : Mem), ([] : List Bool)) (by kernel_rfl) trivial
theorem sp_f1 (a : BitVec 256) (many : Int) (u : Int) : ∀ r, Is (evCs (EL noRows) 60 (takeSeq 1 sB) ⟨pat [(2, .ptr 0 0), (3, .ptr 1 0), (4, .ptr 2 0), (5, .func (.func 36) [.ptr 3 0]), (6, .ptr 6 0)] r 0 nP, ⟨mP a many ++ [AIt.cells [.int .i64 true 0] 3, AIt.cells [.int .i64 false u] 3, AIt.cells [.int .i64 true 1] 3], [], allW⟩⟩ (chK [(2, .ptr 0 0), (3, .ptr 1 0), (4, .ptr 2 0), (5, .func (.func 36) [.ptr 3 0]), (6, .ptr 6 0)] nP (mP a many ++ [AIt.cells [.int .i64 true 0] 3, AIt.cells [.int .i64 false u] 3, AIt.cells [.int .i64 true 1] 3]) [])) := fun r => ev_eq [] (chR [(2, .ptr 0 0), (3, .ptr 1 0), (4, .ptr 2 0), (5, .func (.func 36) [.ptr 3 0]), (6, .ptr 6 0)] nP (mP a many ++ [AIt.cells [.int .i64 true 0] 3, AIt.cells [.int .i64 false u] 3, AIt.cells [.int .i64 true 1] 3]) []) (by kernel_rfl) trivial
theorem sp_g1 (a : BitVec 256) (many : Int) (u : Int) : ∀ r, Is (evCs (EL noRows) 60 (takeSeq 1 sX) ⟨pat [(2, .ptr 0 0), (3, .ptr 1 0), (4, .ptr 2 0), (5, .func (.func 36) [.ptr 3 0]), (6, .ptr 6 0)] r 0 nP, ⟨mP a many ++ [AIt.cells [.int .i64 true 0] 3, AIt.cells [.int .i64 false u] 3, AIt.cells [.int .i64 true 1] 3], [], allW⟩⟩ (chK [(2, .ptr 0 0), (3, .ptr 1 0), (4, .ptr 2 0), (5, .func (.func 36) [.ptr 3 0]), (6, .ptr 6 0), (7, .ptr 7 0)] nP (mP a many ++ [AIt.cells [.int .i64 true 0] 3, AIt.cells [.int .i64 false u] 3, AIt.cells [.int .i64 true 1] 3, AIt.cells [.int .i64 true 0] 3]) [])) := fun r => ev_eq [] (chR [(2, .ptr 0 0), (3, .ptr 1 0), (4, .ptr 2 0), (5, .func (.func 36) [.ptr 3 0]), (6, .ptr 6 0), (7, .ptr 7 0)] nP (mP a many ++ [AIt.cells [.int .i64 true 0] 3, AIt.cells [.int .i64 false u] 3, AIt.cells [.int .i64 true 1] 3, AIt.cells [.int .i64 true 0] 3]) []) (by kernel_rfl) trivial
theorem sp_h1 (a : BitVec 256) (many : Int) (u : Int) : ∀ r, Is (evCs (EL noRows) 60 (takeSeq 1 (sL sX1)) ⟨pat [(2, .ptr 0 0), (3, .ptr 1 0), (4, .ptr 2 0), (5, .func (.func 36) [.ptr 3 0]), (6, .ptr 6 0), (7, .ptr 7 0)] r 0 nP, ⟨mP a many ++ [AIt.cells [.int .i64 true 0] 3, AIt.cells [.int .i64 false u] 3, AIt.cells [.int .i64 true 1] 3, AIt.cells [.int .i64 true 0] 3], [], allW⟩⟩ (chK [(2, .ptr 0 0), (3, .ptr 1 0), (4, .ptr 2 0), (5, .func (.func 36) [.ptr 3 0]), (6, .ptr 6 0), (7, .ptr 7 0), (18, .func (.func 36) [.ptr 3 0])] nP (mP a many ++ [AIt.cells [.int .i64 true 0] 3, AIt.cells [.int .i64 false u] 3, AIt.cells [.int .i64 true 1] 3, AIt.cells [.int .i64 true 0] 3]) [])) := fun r => ev_eq [] (chR [(2, .ptr 0 0), (3, .ptr 1 0), (4, .ptr 2 0), (5, .func (.func 36) [.ptr 3 0]), (6, .ptr 6 0), (7, .ptr 7 0), (18, .func (.func 36) [.ptr 3 0])] nP (mP a many ++ [AIt.cells [.int .i64 true 0] 3, AIt.cells [.int .i64 false u] 3, AIt.cells [.int .i64 true 1] 3, AIt.cells [.int .i64 true 0] 3]) []) (by kernel_rfl) trivial
theorem sp_r10 (a : BitVec 256) (many : Int) (v : Int) (u : Int) (h : AllE [(((((0 : Nat)) : Int) != v), false), ((limb a 0 != limb a 0), false)]) (r : Nat → Value) : Is (evR (EL noRows) 60 8 (rgA sRg) (rgB sRg) ⟨setps (pat [(2, .ptr 0 0), (3, .ptr 1 0), (4, .ptr 2 0), (5, .func (.func 36) [.ptr 3 0]), (6, .ptr 6 0), (7, .ptr 7 0), (18, .func (.func 36) [.ptr 3 0])] r 0 nP) (rgP sRg).toList [.int .i64 true (((0 : Nat)) : Int), .bv .u64 (limb a 0)], ⟨mP a many ++ [AIt.cells [.int .i64 true 0] 3, AIt.cells [.int .i64 false u] 3, AIt.cells [.int .i64 true 1] 3, AIt.cells [.int .i64 false v] 3], [false, false], fun l => allW l && !memN l [3]⟩⟩ (rndK false (rgI sRg) 8 (mP a many ++ [AIt.cells [.int .i64 true 0] 3, AIt.cells [.int .i64 false u] 3, AIt.cells [.int .i64 true 1] 3, AIt.cells [.int .i64 false (IntKind.i64.wrap (v + 1))] 3]))) :=
  ev_eq [(((((0 : Nat)) : Int) != v), false), ((limb a 0 != limb a 0), false)] (rndR false (mP a many ++ [AIt.cells [.int .i64 true 0] 3, AIt.cells [.int .i64 false u] 3, AIt.cells [.int .i64 true 1] 3, AIt.cells [.int .i64 false (IntKind.i64.wrap (v + 1))] 3])) (by kernel_rfl) h
theorem sp_r11 (a : BitVec 256) (many : Int) (v : Int) (u : Int) (h : AllE [(((((1 : Nat)) : Int) != v), false), ((limb a 1 != limb a 1), false)]) (r : Nat → Value) : Is (evR (EL noRows) 60 8 (rgA sRg) (rgB sRg) ⟨setps (pat [(2, .ptr 0 0), (3, .ptr 1 0), (4, .ptr 2 0), (5, .func (.func 36) [.ptr 3 0]), (6, .ptr 6 0), (7, .ptr 7 0), (18, .func (.func 36) [.ptr 3 0])] r 0 nP) (rgP sRg).toList [.int .i64 true (((1 : Nat)) : Int), .bv .u64 (limb a 1)], ⟨mP a many ++ [AIt.cells [.int .i64 true 0] 3, AIt.cells [.int .i64 false u] 3, AIt.cells [.int .i64 true 1] 3, AIt.cells [.int .i64 false v] 3], [false, false], fun l => allW l && !memN l [3]⟩⟩ (rndK false (rgI sRg) 8 (mP a many ++ [AIt.cells [.int .i64 true 0] 3, AIt.cells [.int .i64 false u] 3, AIt.cells [.int .i64 true 1] 3, AIt.cells [.int .i64 false (IntKind.i64.wrap (v + 1))] 3]))) :=
  ev_eq [(((((1 : Nat)) : Int) != v), false), ((limb a 1 != limb a 1), false)] (rndR false (mP a many ++ [AIt.cells [.int .i64 true 0] 3, AIt.cells [.int .i64 false u] 3, AIt.cells [.int .i64 true 1] 3, AIt.cells [.int .i64 false (IntKind.i64.wrap (v + 1))] 3])) (by kernel_rfl) h
theorem sp_r12 (a : BitVec 256) (many : Int) (v : Int) (u : Int) (h : AllE [(((((2 : Nat)) : Int) != v), false), ((limb a 2 != limb a 2), false)]) (r : Nat → Value) : Is (evR (EL noRows) 60 8 (rgA sRg) (rgB sRg) ⟨setps (pat [(2, .ptr 0 0), (3, .ptr 1 0), (4, .ptr 2 0), (5, .func (.func 36) [.ptr 3 0]), (6, .ptr 6 0), (7, .ptr 7 0), (18, .func (.func 36) [.ptr 3 0])] r 0 nP) (rgP sRg).toList [.int .i64 true (((2 : Nat)) : Int), .bv .u64 (limb a 2)], ⟨mP a many ++ [AIt.cells [.int .i64 true 0] 3, AIt.cells [.int .i64 false u] 3, AIt.cells [.int .i64 true 1] 3, AIt.cells [.int .i64 false v] 3], [false, false], fun l => allW l && !memN l [3]⟩⟩ (rndK false (rgI sRg) 8 (mP a many ++ [AIt.cells [.int .i64 true 0] 3, AIt.cells [.int .i64 false u] 3, AIt.cells [.int .i64 true 1] 3, AIt.cells [.int .i64 false (IntKind.i64.wrap (v + 1))] 3]))) :=
  ev_eq [(((((2 : Nat)) : Int) != v), false), ((limb a 2 != limb a 2), false)] (rndR false (mP a many ++ [AIt.cells [.int .i64 true 0] 3, AIt.cells [.int .i64 false u] 3, AIt.cells [.int .i64 true 1] 3, AIt.cells [.int .i64 false (IntKind.i64.wrap (v + 1))] 3])) (by kernel_rfl) h
theorem sp_r13 (a : BitVec 256) (many : Int) (v : Int) (u : Int) (h : AllE [(((((3 : Nat)) : Int) != v), false), ((limb a 3 != limb a 3), false)]) (r : Nat → Value) : Is (evR (EL noRows) 60 8 (rgA sRg) (rgB sRg) ⟨setps (pat [(2, .ptr 0 0), (3, .ptr 1 0), (4, .ptr 2 0), (5, .func (.func 36) [.ptr 3 0]), (6, .ptr 6 0), (7, .ptr 7 0), (18, .func (.func 36) [.ptr 3 0])] r 0 nP) (rgP sRg).toList [.int .i64 true (((3 : Nat)) : Int), .bv .u64 (limb a 3)], ⟨mP a many ++ [AIt.cells [.int .i64 true 0] 3, AIt.cells [.int .i64 false u] 3, AIt.cells [.int .i64 true 1] 3, AIt.cells [.int .i64 false v] 3], [false, false], fun l => allW l && !memN l [3]⟩⟩ (rndK false (rgI sRg) 8 (mP a many ++ [AIt.cells [.int .i64 true 0] 3, AIt.cells [.int .i64 false u] 3, AIt.cells [.int .i64 true 1] 3, AIt.cells [.int .i64 false (IntKind.i64.wrap (v + 1))] 3]))) :=
  ev_eq [(((((3 : Nat)) : Int) != v), false), ((limb a 3 != limb a 3), false)] (rndR false (mP a many ++ [AIt.cells [.int .i64 true 0] 3, AIt.cells [.int .i64 false u] 3, AIt.cells [.int .i64 true 1] 3, AIt.cells [.int .i64 false (IntKind.i64.wrap (v + 1))] 3])) (by kernel_rfl) h
theorem sp_i1 (a : BitVec 256) (many : Int) (u t : Int) (h : AllE [((t != 4), false)]) : ∀ r, Is (evT (EL noRows) 60 (.code (sR sX1)) ⟨pat [(2, .ptr 0 0), (3, .ptr 1 0), (4, .ptr 2 0), (5, .func (.func 36) [.ptr 3 0]), (6, .ptr 6 0), (7, .ptr 7 0), (18, .func (.func 36) [.ptr 3 0])] r 0 nP, ⟨mP a many ++ [AIt.cells [.int .i64 true 0] 3, AIt.cells [.int .i64 false u] 3, AIt.cells [.int .i64 true 1] 3, AIt.cells [.int .i64 false t] 3], [false], allW⟩⟩ (chE .normal [(2, .ptr 0 0), (3, .ptr 1 0), (4, .ptr 2 0), (5, .func (.func 36) [.ptr 3 0]), (6, .ptr 6 0), (7, .ptr 7 0)] nP (mP a many ++ [AIt.cells [.int .i64 true 0] 3, AIt.cells [.int .i64 false u] 3, AIt.cells [.int .i64 true 1] 3, AIt.cells [.int .i64 false t] 3]) [])) := fun r => ev_eq [((t != 4), false)] (true, nP, ([(2, .ptr 0 0), (3, .ptr 1 0), (4, .ptr 2 0), (5, .func (.func 36) [.ptr 3 0]), (6, .ptr 6 0), (7, .ptr 7 0)] : List (Nat × AV)).map (fun p => some p.2), (mP a many ++ [AIt.cells [.int .i64 true 0] 3, AIt.cells [.int .i64 false u] 3, AIt.cells [.int .i64 true 1] 3, AIt.cells [.int .i64 false t] 3] : Mem), ([] : List Bool)) (by kernel_rfl) h
theorem sp_j1 (a : BitVec 256) (many : Int) (u t : Int) : ∀ r, Is (evT (EL noRows) 60 (.code (sR sB1)) ⟨pat [(2, .ptr 0 0), (3, .ptr 1 0), (4, .ptr 2 0), (5, .func (.func 36) [.ptr 3 0]), (6, .ptr 6 0), (7, .ptr 7 0)] r 0 nP, ⟨mP a many ++ [AIt.cells [.int .i64 true 0] 3, AIt.cells [.int .i64 false u] 3, AIt.cells [.int .i64 true 1] 3, AIt.cells [.int .i64 false t] 3], [], allW⟩⟩ (chE .normal [(2, .ptr 0 0), (3, .ptr 1 0), (4, .ptr 2 0), (5, .func (.func 36) [.ptr 3 0]), (6, .ptr 8 0)] nP (mP a many ++ [AIt.cells [.int .i64 true 0] 3, AIt.cells [.int .i64 false u] 3, AIt.cells [.int .i64 true 1] 3, AIt.cells [.int .i64 false t] 3, AIt.cells [.int .i64 true 2] 3]) [])) := fun r => ev_eq [] (true, nP, ([(2, .ptr 0 0), (3, .ptr 1 0), (4, .ptr 2 0), (5, .func (.func 36) [.ptr 3 0]), (6, .ptr 8 0)] : List (Nat × AV)).map (fun p => some p.2), (mP a many ++ [AIt.cells [.int .i64 true 0] 3, AIt.cells [.int .i64 false u] 3, AIt.cells [.int .i64 true 1] 3, AIt.cells [.int .i64 false t] 3, AIt.cells [.int .i64 true 2] 3] : Mem), ([] : List Bool)) (by kernel_rfl) trivial
theorem sp_k (a : BitVec 256) (many : Int) (u t : Int) : ∀ r, Is (evT (EL noRows) 60 (.code sB) ⟨pat [(2, .ptr 0 0), (3, .ptr 1 0), (4, .ptr 2 0), (5, .func (.func 36) [.ptr 3 0]), (6, .ptr 8 0)] r 0 nP, ⟨mP a many ++ [AIt.cells [.int .i64 true 0] 3, AIt.cells [.int .i64 false u] 3, AIt.cells [.int .i64 true 1] 3, AIt.cells [.int .i64 false t] 3, AIt.cells [.int .i64 true 2] 3], [], allW⟩⟩ (chE (.exit 0) [(2, .ptr 0 0), (3, .ptr 1 0), (4, .ptr 2 0), (5, .func (.func 36) [.ptr 3 0]), (6, .ptr 8 0)] nP (mP a many ++ [AIt.cells [.int .i64 true 0] 3, AIt.cells [.int .i64 false u] 3, AIt.cells [.int .i64 true 1] 3, AIt.cells [.int .i64 false t] 3, AIt.cells [.int .i64 true 2] 3]) [])) := fun r => ev_eq [] (true, nP, ([(2, .ptr 0 0), (3, .ptr 1 0), (4, .ptr 2 0), (5, .func (.func 36) [.ptr 3 0]), (6, .ptr 8 0)] : List (Nat × AV)).map (fun p => some p.2), (mP a many ++ [AIt.cells [.int .i64 true 0] 3, AIt.cells [.int .i64 false u] 3, AIt.cells [.int .i64 true 1] 3, AIt.cells [.int .i64 false t] 3, AIt.cells [.int .i64 true 2] 3] : Mem), ([] : List Bool)) (by kernel_rfl) trivial
theorem sp_z (a : BitVec 256) (many : Int) (u t : Int) : ∀ rs, Is (evT (EL noRows) 60 (.code (sR s3)) ⟨pat [(2, .ptr 0 0), (3, .ptr 1 0), (4, .ptr 2 0), (5, .func (.func 36) [.ptr 3 0]), (6, .ptr 8 0)] rs 0 nP, ⟨mP a many ++ [AIt.cells [.int .i64 true 0] 3, AIt.cells [.int .i64 false u] 3, AIt.cells [.int .i64 true 1] 3, AIt.cells [.int .i64 false t] 3, AIt.cells [.int .i64 true 2] 3], [], allW⟩⟩ (retK (EL noRows) Tryd.f6 (.bool false true))) := fun rs => ev_eq [] (some [AV.bool false true]) (by kernel_rfl) trivial
end

section
theorem seqP {R : Rws} {D : List Deferred} {live : List (Nat × AV)} {n : Nat} {ds : List Bool} {wr : Nat → Bool} {ac : Act} (Hr : List RBlk) (w : World) (a : BitVec 256) {H : Mem} (hl : H[3]? = some (.cells (wC a) 26)) (hv : liveB H = true) (ho : ownB ((AIt.cells (wC a) 26).owner 3) [3] 0 H = true) (hP : PatSt R D live n ⟨H, ds, wr⟩ ac Hr) (hO : OwnK R H Hr w) (lb : List Value) (hlb : RelL R (nums Hr) [.ptr 3 0] lb) : Seq Tryd.prog 36 lb.toArray (encQ a) (List.range 4) (Sfz [3] Hr w) w := by
  obtain ⟨rs, vs, _, _, hBl, hnd⟩ := hP
  obtain ⟨q1, n1, hb1⟩ := blk_of hBl hO.1 (l := 3) hl (vals_wC a)
  cases hlb with | cons h1 h2 =>
  cases h2
  obtain ⟨q2, m1, rfl⟩ := rel_ptr h1
  obtain rfl := Option.some.inj (n1.symm.trans m1)
  obtain ⟨p1, hp1, rfl⟩ := nums_at n1
  have hph := hBl.cph (l := 3) hl hp1
  exact parts1_seq _ a w (Sfz [3] Hr w) hb1 (sfz_of hBl hnd hO.1 hv (l := 3) hl hp1 hph ho)
def xQ (a : BitVec 256) : Nat → Nat → List AV := fun _ x => [.int .i64 true (x : Int), .bv .u64 (limb a x)]
theorem range4 {k x : Nat} (h : (List.range 4)[k]? = some x) : k < 4 ∧ x = k := by
  have hk := (List.getElem?_eq_some_iff.1 h).1
  simp at hk
  rw [List.getElem?_range hk] at h
  exact ⟨hk, (Option.some.inj h).symm⟩
theorem wrap_n {k : Nat} (h : k < 1000000) : IntKind.wrap IntKind.i64 ((k : Int) + 1) = ((k + 1 : Nat) : Int) := by rw [IntWalk.i64_in _ (by omega)]; omega
set_option maxHeartbeats 8000000 in
theorem parts_law (a : BitVec 256) (many : Int) (w : World) : Calls Tryd.prog 6 #[W a, .int .i64 many] w fun e w' => e = .returned (.bool true) ∧ Below w.heap.size w w' := by
  have hE := EL_ok rwOK_no
  refine ev_enter (E := EL noRows) (fn := Tryd.f6) (c := cP) Tryd.func6 (by kernel_rfl) (args := [wA a, .int .i64 false many]) (Args := [W a, .int .i64 many]) (show 2 ≤ nP by decide) (.cons (rel_wA _ a) (.cons .int .nil)) (rd_no _ _) (ds := []) (wr := allW) fun a0 hP hB => ?_
  refine ev_seqs hE 60 3 (sp_a a many) hP hB fun a1 Hr1 w1 hP1 hB1 _ => ?_
  refine wp_parts (by kernel_rfl) ?_
  refine ev_seqs hE 60 1 (sp_h a many) hP1 hB1 fun a9 Hr9 w9 hP9 hB9 _ => ?_
  refine wp_bk (by kernel_rfl) (wp_lp 3 (by kernel_rfl) ?_)
  rw [rounds_succ]
  refine ev_seqs hE 60 1 (sp_f0 a many) hP9 hB9 fun b1 Kr1 v1 hQ1 hC1 _ => ?_
  refine wp_parts (by kernel_rfl) (wp_bk (by kernel_rfl) ?_)
  refine ev_seqs hE 60 1 (sp_g0 a many) hQ1 hC1 fun b2 Kr2 v2 hQ2 hC2 _ => ?_
  refine wp_parts (by kernel_rfl) ?_
  refine ev_seqs hE 60 1 (sp_h0 a many) hQ2 hC2 fun b3 Kr3 v3 hQ3 hC3 _ => ?_
  have hQ3' := patSt_cells (l := 5) (cs' := [.int .i64 false 0]) (H := mP a many ++ [AIt.cells [.int .i64 true 0] 3, AIt.cells [.int .i64 true 0] 3]) rfl rfl rfl hQ3
  have hC3' := bun_cells (l := 5) (cs' := [.int .i64 false 0]) (H := mP a many ++ [AIt.cells [.int .i64 true 0] 3, AIt.cells [.int .i64 true 0] 3]) rfl hC3
  have hx : ∀ k x, (List.range 4)[k]? = some x → AV.plains? (xQ a k x) = some (encQ a k x).toList := fun k x h => by
    show AV.plains? [.int .i64 true (x : Int), .bv .u64 (limb a x)] = some [Value.int .i64 (x : Int), .int .u64 (L a x)]
    rw [← limb_L]; rfl
  have hcond : ∀ (j : Nat), ((((j : Nat)) : Int) != (j : Int)) = false ∧ (limb a j != limb a j) = false := fun j => ⟨by simp, by simp⟩
  refine ev_rangeAt hE 60 (m := ⟨mP a many ++ [AIt.cells [.int .i64 true 0] 3, AIt.cells [.int .i64 false 0] 3], [], allW⟩) (live := [(2, .ptr 0 0), (3, .ptr 1 0), (4, .ptr 2 0), (5, .func (.func 36) [.ptr 3 0]), (6, .ptr 4 0), (7, .ptr 5 0), (18, .func (.func 36) [.ptr 3 0])]) (n := nP) (caps := [.ptr 3 0]) (xs := List.range 4) (encs := encQ a) (by kernel_rfl) (fun _ => by kernel_rfl) (enters_of Tryd.func36 (by kernel_rfl) rfl) (by kernel_rfl) [3] (seqP Kr3 v3 a rfl rfl rfl hQ3' hC3'.own) (xQ a) hx (fun _ _ => rfl) (fun k => mP a many ++ [AIt.cells [.int .i64 true 0] 3, AIt.cells [.int .i64 false ((k : Nat) : Int)] 3]) rfl (fun _ => rfl) (fun k => [false, false, decide (IntKind.i64.wrap ((k : Int) + 1) ≥ many)]) (fun k => decide (IntKind.i64.wrap ((k : Int) + 1) ≥ many))
    (fun k x r hx _ => ?_) hQ3' hC3' fun k b4 Kr4 v4 hEn hQ4 hC4 _ => ?_
  · obtain ⟨hk, rfl⟩ := range4 hx
    have e := wrap_n (k := x) (by omega)
    change Is (evR _ _ _ _ _ _ (rndK _ _ _ (mP a many ++ [AIt.cells [.int .i64 true 0] 3, AIt.cells [.int .i64 false ((x + 1 : Nat) : Int)] 3])))
    rw [← e]
    obtain ⟨q1, q2⟩ := hcond x
    rcases hz : decide (IntKind.i64.wrap ((x : Int) + 1) ≥ many) with _ | _
    · rcases (by omega : x = 0 ∨ x = 1 ∨ x = 2 ∨ x = 3) with rfl | rfl | rfl | rfl
      · exact sp_r0f0 a many ((0 : Nat) : Int) (allE_cons q1 (allE_cons q2 (allE_cons hz allE_nil))) r
      · exact sp_r0f1 a many ((1 : Nat) : Int) (allE_cons q1 (allE_cons q2 (allE_cons hz allE_nil))) r
      · exact sp_r0f2 a many ((2 : Nat) : Int) (allE_cons q1 (allE_cons q2 (allE_cons hz allE_nil))) r
      · exact sp_r0f3 a many ((3 : Nat) : Int) (allE_cons q1 (allE_cons q2 (allE_cons hz allE_nil))) r
    · rcases (by omega : x = 0 ∨ x = 1 ∨ x = 2 ∨ x = 3) with rfl | rfl | rfl | rfl
      · exact sp_r0t0 a many ((0 : Nat) : Int) (allE_cons q1 (allE_cons q2 (allE_cons hz allE_nil))) r
      · exact sp_r0t1 a many ((1 : Nat) : Int) (allE_cons q1 (allE_cons q2 (allE_cons hz allE_nil))) r
      · exact sp_r0t2 a many ((2 : Nat) : Int) (allE_cons q1 (allE_cons q2 (allE_cons hz allE_nil))) r
      · exact sp_r0t3 a many ((3 : Nat) : Int) (allE_cons q1 (allE_cons q2 (allE_cons hz allE_nil))) r
  have hkm : (((k : Nat) : Int) != (if (if many > 1 then many else 1) < 4 then (if many > 1 then many else 1) else 4)) = false := by
    have hb : ∀ j : Nat, j < 4 → (decide (IntKind.i64.wrap ((j : Int) + 1) ≥ many) = true ↔ many ≤ (j : Int) + 1) := fun j hj => by
      rw [wrap_n (by omega)]; simp
    rw [bne_eq_false_iff_eq]
    rcases hEn with ⟨h1, h2⟩ | ⟨h1, h2, h3, h4⟩
    · rw [List.length_range] at h1
      subst h1
      have h5 := h2 3 (by omega)
      have h6 := (not_congr (hb 3 (by omega))).1 (by have h5 : decide (IntKind.i64.wrap (((3 : Nat) : Int) + 1) ≥ many) = false := h5; rw [h5]; simp)
      repeat' split <;> omega
    · rw [List.length_range] at h2
      have h5 := (hb (k - 1) (by omega)).1 h3
      by_cases hk1 : k = 1
      · repeat' split <;> omega
      · have h6 := h4 (k - 2) (by omega)
        have h7 := (not_congr (hb (k - 2) (by omega))).1 (by have h6 : decide (IntKind.i64.wrap (((k - 2 : Nat) : Int) + 1) ≥ many) = false := h6; rw [h6]; simp)
        repeat' split <;> omega
  refine ev_codeE hE 60 .normal (sp_i0 a many (k : Int) (allE_cons hkm allE_nil)) hQ4 hC4 fun b5 Kr5 v5 hQ5 hC5 _ => ?_
  refine ev_codeE hE 60 .normal (sp_j0 a many (k : Int)) hQ5 hC5 fun b6 Kr6 v6 hQ6 hC6 _ => ?_
  refine ev_seqs hE 60 1 (sp_f1 a many (k : Int)) hQ6 hC6 fun b7 Kr7 v7 hQ7 hC7 _ => ?_
  refine wp_parts (by kernel_rfl) (wp_bk (by kernel_rfl) ?_)
  refine ev_seqs hE 60 1 (sp_g1 a many (k : Int)) hQ7 hC7 fun b8 Kr8 v8 hQ8 hC8 _ => ?_
  refine wp_parts (by kernel_rfl) ?_
  refine ev_seqs hE 60 1 (sp_h1 a many (k : Int)) hQ8 hC8 fun b9 Kr9 v9 hQ9 hC9 _ => ?_
  have hQ9' := patSt_cells (l := 7) (cs' := [.int .i64 false 0]) (H := mP a many ++ [AIt.cells [.int .i64 true 0] 3, AIt.cells [.int .i64 false (k : Int)] 3, AIt.cells [.int .i64 true 1] 3, AIt.cells [.int .i64 true 0] 3]) rfl rfl rfl hQ9
  have hC9' := bun_cells (l := 7) (cs' := [.int .i64 false 0]) (H := mP a many ++ [AIt.cells [.int .i64 true 0] 3, AIt.cells [.int .i64 false (k : Int)] 3, AIt.cells [.int .i64 true 1] 3, AIt.cells [.int .i64 true 0] 3]) rfl hC9
  refine ev_rangeAt hE 60 (m := ⟨mP a many ++ [AIt.cells [.int .i64 true 0] 3, AIt.cells [.int .i64 false (k : Int)] 3, AIt.cells [.int .i64 true 1] 3, AIt.cells [.int .i64 false 0] 3], [], allW⟩) (live := [(2, .ptr 0 0), (3, .ptr 1 0), (4, .ptr 2 0), (5, .func (.func 36) [.ptr 3 0]), (6, .ptr 6 0), (7, .ptr 7 0), (18, .func (.func 36) [.ptr 3 0])]) (n := nP) (caps := [.ptr 3 0]) (xs := List.range 4) (encs := encQ a) (by kernel_rfl) (fun _ => by kernel_rfl) (enters_of Tryd.func36 (by kernel_rfl) rfl) (by kernel_rfl) [3] (seqP Kr9 v9 a rfl rfl rfl hQ9' hC9'.own) (xQ a) hx (fun _ _ => rfl) (fun j => mP a many ++ [AIt.cells [.int .i64 true 0] 3, AIt.cells [.int .i64 false (k : Int)] 3, AIt.cells [.int .i64 true 1] 3, AIt.cells [.int .i64 false ((j : Nat) : Int)] 3]) rfl (fun _ => rfl) (fun _ => [false, false]) (fun _ => false)
    (fun j x r hx _ => ?_) hQ9' hC9' fun j b10 Kr10 v10 hEn2 hQ10 hC10 _ => ?_
  · obtain ⟨hk, rfl⟩ := range4 hx
    have e := wrap_n (k := x) (by omega)
    change Is (evR _ _ _ _ _ _ (rndK _ _ _ (mP a many ++ [AIt.cells [.int .i64 true 0] 3, AIt.cells [.int .i64 false (k : Int)] 3, AIt.cells [.int .i64 true 1] 3, AIt.cells [.int .i64 false ((x + 1 : Nat) : Int)] 3])))
    rw [← e]
    obtain ⟨q1, q2⟩ := hcond x
    rcases (by omega : x = 0 ∨ x = 1 ∨ x = 2 ∨ x = 3) with rfl | rfl | rfl | rfl
    · exact sp_r10 a many ((0 : Nat) : Int) (k : Int) (allE_cons q1 (allE_cons q2 allE_nil)) r
    · exact sp_r11 a many ((1 : Nat) : Int) (k : Int) (allE_cons q1 (allE_cons q2 allE_nil)) r
    · exact sp_r12 a many ((2 : Nat) : Int) (k : Int) (allE_cons q1 (allE_cons q2 allE_nil)) r
    · exact sp_r13 a many ((3 : Nat) : Int) (k : Int) (allE_cons q1 (allE_cons q2 allE_nil)) r
  have hj : (((j : Nat) : Int) != 4) = false := by
    rw [bne_eq_false_iff_eq]
    rcases hEn2 with ⟨h1, _⟩ | ⟨_, _, h3, _⟩
    · rw [h1]; rfl
    · cases h3
  refine ev_codeE hE 60 .normal (sp_i1 a many (k : Int) (j : Int) (allE_cons hj allE_nil)) hQ10 hC10 fun b11 Kr11 v11 hQ11 hC11 _ => ?_
  refine ev_codeE hE 60 .normal (sp_j1 a many (k : Int) (j : Int)) hQ11 hC11 fun b12 Kr12 v12 hQ12 hC12 _ => ?_
  refine ev_codeE hE 60 (.exit 0) (sp_k a many (k : Int) (j : Int)) hQ12 hC12 fun b13 Kr13 v13 hQ13 hC13 _ => ?_
  exact ev_rest hE 60 (sp_z a many (k : Int) (j : Int)) rfl (fun j r h => by cases h) hQ13 hC13
end

section
open Go.ChangeShapes Go.WideShapes Go.ChangeAt Go.RowKit

abbrev laidT : List (String × DataW Unit) := [("unicode/utf8.acceptRanges", Rows.laid_unicode_utf8_acceptRanges), ("unicode/utf8.first", Rows.laid_unicode_utf8_first)]
theorem door_met (os : Os) (args : Array Value) : laidMetH Tryd.prog laidT ((World.laidAll Tryd.prog os laidT).forCall (fun _ _ => 0) ⟨#[], args, []⟩).memory := by
  rw [MakeChecks.laidMetH_plain _ _ _ (by kernel_rfl)]; exact laidMet_laidAll _ (by kernel_rfl) (by kernel_rfl)
theorem W_of (a0 a1 a2 a3 : Int) (h0 : (Lit.int .u64 a0).wf = true) (h1 : (Lit.int .u64 a1).wf = true) (h2 : (Lit.int .u64 a2).wf = true) (h3 : (Lit.int .u64 a3).wf = true) : ∃ x : BitVec 256, Value.agg #[.int .u64 a0, .int .u64 a1, .int .u64 a2, .int .u64 a3] = W x := by
  have b0 := bounds_u64 h0
  have b1 := bounds_u64 h1
  have b2 := bounds_u64 h2
  have b3 := bounds_u64 h3
  refine ⟨mkW (BitVec.ofInt 64 a0) (BitVec.ofInt 64 a1) (BitVec.ofInt 64 a2) (BitVec.ofInt 64 a3), ?_⟩
  rw [W_mkW]
  simp only [BitVec.toNat_ofInt]
  congr <;> omega
theorem open_words : ∀ (L : List (List Value)), (∀ u ∈ L, Leaves [some .u64, some .u64, some .u64, some .u64] u) → ∃ xs : List (BitVec 256), L.flatten = wordsC xs ∧ xs.length = L.length ∧ ∀ x ∈ xs, True
  | [], _ => ⟨[], rfl, rfl, by simp⟩
  | u :: L, h => by
    obtain ⟨xs, h1, h2, _⟩ := open_words L fun u hu => h u (by simp [hu])
    obtain ⟨_, r0, rfl, ⟨a0, rfl, w0⟩, g0⟩ := Leaves.cons (h u (by simp))
    obtain ⟨_, r1, rfl, ⟨a1, rfl, w1⟩, g1⟩ := Leaves.cons g0
    obtain ⟨_, r2, rfl, ⟨a2, rfl, w2⟩, g2⟩ := Leaves.cons g1
    obtain ⟨_, r3, rfl, ⟨a3, rfl, w3⟩, g3⟩ := Leaves.cons g2
    obtain rfl := Leaves.nil g3
    obtain ⟨x, hx⟩ := W_of a0 a1 a2 a3 w0 w1 w2 w3
    have hx : [Value.int .u64 a0, .int .u64 a1, .int .u64 a2, .int .u64 a3] = [Value.int .u64 (Go.Proofs.YtmbaimgncljmnaaDoor.L x 0), .int .u64 (Go.Proofs.YtmbaimgncljmnaaDoor.L x 1), .int .u64 (Go.Proofs.YtmbaimgncljmnaaDoor.L x 2), .int .u64 (Go.Proofs.YtmbaimgncljmnaaDoor.L x 3)] := by
      simpa [W] using hx
    exact ⟨x :: xs, by simp [h1, wordsC, hx], by simp [h2], fun _ _ => trivial⟩
theorem open_nats : ∀ (L : List (List Value)), (∀ u ∈ L, Leaves [some .u8] u) → ∃ xs : List Nat, L.flatten = xs.map (fun x : Nat => Value.int .u8 (x : Int)) ∧ xs.length = L.length ∧ ∀ x ∈ xs, x < 256
  | [], _ => ⟨[], rfl, rfl, by simp⟩
  | u :: L, h => by
    obtain ⟨xs, h1, h2, h3⟩ := open_nats L fun u hu => h u (by simp [hu])
    obtain ⟨_, r0, rfl, ⟨a0, rfl, w0⟩, g0⟩ := Leaves.cons (h u (by simp))
    obtain rfl := Leaves.nil g0
    have b0 : 0 ≤ a0 ∧ a0 < 256 := by
      have := w0
      simp [Lit.wf, IntKind.min, IntKind.max, IntKind.signed, IntKind.bits] at this
      omega
    obtain ⟨n, rfl⟩ := Int.eq_ofNat_of_zero_le b0.1
    refine ⟨n :: xs, by simp [h1], by simp [h2], fun x hx => ?_⟩
    rcases List.mem_cons.1 hx with rfl | hx
    · omega
    · exact h3 x hx
end
end Go.Proofs.YtmbaimgncljmnaaDoor
