/- Euclid's way by the document: a list. No condition. -/
import Derived.Test.YtjmaigienigpnaaSpK
set_option linter.unusedVariables false
set_option linter.unusedSimpArgs false
namespace Go.Proofs.Ytjmaigienigpnaa
open Go.RowKit

theorem half_rem {b r : Nat} (hr : r < b) (h0 : 0 < r) : 2 * (b % r) < b := by
  have h1 := Nat.mod_lt b h0
  have h2 := Nat.div_add_mod b r
  have h3 : 1 ≤ b / r := Nat.div_pos (Nat.le_of_lt hr) h0
  have h4 : r * 1 ≤ r * (b / r) := Nat.mul_le_mul_left _ h3
  omega
theorem pairs_bd : ∀ (n : Nat) (a b : BitVec 256), b.toNat < 2 ^ n → (pairsL a b).length ≤ 2 * n + 1
  | 0, a, b, h => by
    have hb : b = 0#256 := BitVec.eq_of_toNat_eq (by simp; simpa using h)
    subst hb
    by_cases ha : a = 0#256
    · rw [ha, pairsL_nil]; simp
    · rw [pairsL_cons _ ha, pairsL_nil]; simp
  | n + 1, a, b, h => by
    by_cases ha : a = 0#256
    · rw [ha, pairsL_nil]; simp
    · rw [pairsL_cons _ ha]
      by_cases hb : b = 0#256
      · rw [hb, pairsL_nil]; simp
      · rw [pairsL_cons _ hb]
        have hbp := pos_of_ne hb
        have hra : (modW a b).toNat < b.toNat := by unfold modW; rw [if_neg hb, BitVec.toNat_umod]; exact Nat.mod_lt _ hbp
        generalize modW a b = r at *
        by_cases hr : r = 0#256
        · rw [hr, pairsL_nil]; simp; omega
        · have hrp := pos_of_ne hr
          have h2 : (modW b r).toNat < 2 ^ n := by
            unfold modW
            rw [if_neg hr, BitVec.toNat_umod]
            have := half_rem hra hrp
            rw [Nat.pow_succ] at h
            omega
          have ih := pairs_bd n r (modW b r) h2
          simp only [List.length_cons]
          omega
theorem pairs_bd' (a b : BitVec 256) : (pairsL a b).length ≤ 513 := pairs_bd 256 a b b.isLt
theorem tinfo_word : (Try.prog.info? 24).map (fun i => (i.zero, i.size, i.bytes)) = some (some (.agg #[.int .u64 0, .int .u64 0, .int .u64 0, .int .u64 0]), 4, 32) := by kernel_rfl
theorem under_words : Try.prog.underlying 28 = some (.slice 24) := by kernel_rfl
theorem news_at (w : World) (c : Array Value) (t : TypeId) : ∀ j u, c.toList[j]? = some u → (w.alloc (.cells c t)).cell? ((⟨w.heap.size, 0, none⟩ : Addr).add j) = some u := fun j u h => by
  rw [Addr.add_lit, Nat.zero_add, World.cell?_alloc_at _ _ _ _ rfl]; simpa using h
def wordsC (xs : List (BitVec 256)) : List Value := xs.flatMap fun x => [.int .u64 (L x 0), .int .u64 (L x 1), .int .u64 (L x 2), .int .u64 (L x 3)]
theorem wordsC_take {xs : List (BitVec 256)} {k : Nat} {x : BitVec 256} (h : xs[k]? = some x) : wordsC (xs.take (k + 1)) = wordsC (xs.take k) ++ [.int .u64 (L x 0), .int .u64 (L x 1), .int .u64 (L x 2), .int .u64 (L x 3)] := by
  unfold wordsC
  rw [List.take_add_one, h]
  simp
theorem owns_setO {w : World} {base size : Nat} {e : TypeId} {v : Value} {n : Nat} {xs : List Value} (h : w.ownsRow base e size v n xs) {b o : Nat} (u : Value) (hb : b < base) : (w.setCell ⟨b, o, none⟩ u).ownsRow base e size v n xs :=
  h.kept (row := some b) ⟨rfl, rfl, rfl, by simp, fun k _ hk => Below.heap_setCell w ⟨b, o, none⟩ u k (fun e => hk (by rw [e]))⟩ (.inr (fun e => by have := (h.lt _ e).1; omega))
def vlen : Value → Nat
  | .slice _ n _ => n
  | _ => 0
theorem vlen_owns {w : World} {base size : Nat} {e : TypeId} {v : Value} {n : Nat} {xs : List Value} (h : w.ownsRow base e size v n xs) : vlen v = n := by
  rcases h.2 with ⟨rfl, rfl⟩ | ⟨g, cap, cur, rfl, _⟩ <;> rfl
def RsRel (xs : List (BitVec 256)) (ps : List (BitVec 256 × BitVec 256)) (w : World) (v : Value) (wr : World) : Prop :=
  ∃ (k : Nat) (x y : BitVec 256), k ≤ ps.length ∧ ps.drop k = pairsL x y ∧ wr.ownsRow (w.heap.size + 2) 24 4 v k (wordsC (xs.take k)) ∧ Own [(w.heap.size + 1, wc y, 24), (w.heap.size, wc x, 24)] wr ∧ Below w.heap.size w wr
set_option maxRecDepth 20000 in
set_option maxHeartbeats 4000000 in
theorem refSteps_any (a b : BitVec 256) (w : World) : Calls Try.prog 13 #[W a, W b] w fun e w' => ∃ v, e = .returned v ∧ w'.ownsRow w.heap.size 24 4 v (stepsL a b).length (wordsC (stepsL a b)) ∧ Below w.heap.size w w' := by
  obtain ⟨i0, hi, hz0, hz1, hz2⟩ := info_parts tinfo_word
  have HLN := Lib.hid (stepsL_len a b)
  have HAT := Lib.hid (fun k x (h : (pairsL a b)[k]? = some x) => stepsL_at h)
  have hpb := pairs_bd' a b
  have hxe0 := Lib.hid (show pairsL a b = (pairsL a b).drop 0 from rfl)
  generalize hpe : pairsL a b = ps at *
  generalize hxe : stepsL a b = xs at *
  go_enter Try.func13, Try.ntmps13
  go_wp2_with fail
  go_loopw [5] (fun v wr => RsRel xs ps w v wr) (fun v _ => ps.length - vlen v)
  case atStart => exact ⟨0, a, b, Nat.zero_le _, by rw [List.drop_zero, hpe], by rw [List.take_zero]; exact World.ownsRow_nil _ _ _ _, Own.new (Own.new (Own.nil w) (w.heap.size) (by first | rfl | simp)) (w.heap.size + 1) (by simp), by go_grown⟩
  case round =>
    obtain ⟨k, x, y, hk, hdr, hown, hO, hb⟩ := hrel
    have hq := eqZ x
    have c13x0 := hO.cell 0 rfl
    have c13x1 := hO.cell 1 rfl
    have hl0 := hO.lt 0 rfl
    by_cases hx0 : x = 0#256
    · rw [decide_eq_true hx0] at hq
      rw [hx0, pairsL_nil, List.drop_eq_nil_iff] at hdr
      have hkn : k = xs.length := by rw [HLN.out]; omega
      rw [hkn, List.take_length] at hown
      have HOW := Lib.hid hown
      have HB := Lib.hid hb
      clear hx0 hown hb hO
      go_wp2_with fail
      go_ret
      exact ⟨_, rfl, ⟨HOW.out.1, HOW.out.2.imp id (fun ⟨g, cap, cur, h1, h2, h3⟩ => ⟨g, cap, cur, h1, by omega, h3⟩)⟩, HB.out⟩
    · rw [decide_eq_false hx0] at hq
      have hpc := pairsL_cons y hx0
      rw [hpc] at hdr
      have hps : ps[k]? = some (x, y) := by rw [← List.head?_drop, hdr]; rfl
      have hdr2 : ps.drop (k + 1) = pairsL y (modW x y) := by rw [← List.tail_drop, hdr]; rfl
      have hkl : k < ps.length := (List.getElem?_eq_some_iff.1 hps).1
      have HWT := Lib.hid (wordsC_take (HAT.out k _ hps))
      have HDR := Lib.hid hdr2
      have HDV := Lib.hid (fun V => refDivideW x y V)
      have HVL := Lib.hid (vlen_owns hown)
      clear hdr hpc hps hdr2 hx0
      dsimp only at HWT
      generalize modW x y = md at *
      generalize divW x y = dv at *
      go_wp2_with (first | (at_builtin; refine wpList_append_own _ rfl _ _ 28 rfl (w.heap.size + 2) 24 i0 _ 4 32 under_words hi hz0 hz1 hz2 rfl (by decide) _ _ _ rfl (hown.alloc _) ⟨wr.heap.size, 0, none⟩ 1 1 [.int .u64 (L x 0), .int .u64 (L x 1), .int .u64 (L x 2), .int .u64 (L x 3)] rfl rfl (news_at _ _ _) (by simp [Value.oneCell']) (by simp only [maxLen]; omega) (by omega) (by simp; omega) ?_))
      intro v3 w3 hown3 hg3 _
      have hb3 : Below w.heap.size w w3 := below_grown (hb.alloc hb.size _) (hown.alloc _) hg3 (by simp; omega) (by omega)
      have hO3 : Own [(w.heap.size + 1, wc y, 24), (w.heap.size, wc x, 24)] w3 := fun p hp => by
        have hpl : p.1 < w.heap.size + 2 := by simp only [List.mem_cons, List.not_mem_nil, or_false] at hp; rcases hp with rfl | rfl <;> (dsimp only; omega)
        have h1 := (World.below_alloc wr (.cells #[.int .u64 (L x 0), .int .u64 (L x 1), .int .u64 (L x 2), .int .u64 (L x 3)] 24)).block p.1 ((hO p hp).lt)
        have hlt2 : p.1 < (wr.alloc (.cells #[.int .u64 (L x 0), .int .u64 (L x 1), .int .u64 (L x 2), .int .u64 (L x 3)] 24)).heap.size := by simp only [World.size_alloc]; have := (hO p hp).lt; omega
        exact (hg3.block p.1 hlt2 (fun e => by have := ((hown.alloc (.cells #[.int .u64 (L x 0), .int .u64 (L x 1), .int .u64 (L x 2), .int .u64 (L x 3)] 24)).lt _ e.symm).1; omega)).trans (h1.trans (hO p hp))
      have hown4 : w3.ownsRow (w.heap.size + 2) 24 4 v3 (k + 1) (wordsC (xs.take (k + 1))) := by rw [HWT.out]; exact hown3
      have HO3 := Lib.hid hO3
      have HOW := Lib.hid hown4
      have HB3 := Lib.hid hb3
      have hz3 := hb3.size
      clear hown3 hg3 hown hb hO hO3 hown4 c13x0 c13x1 hq
      have c14x0 := HO3.out.cell 0 rfl
      have c14x1 := HO3.out.cell 1 rfl
      have f14x0 := HO3.out.free 0 rfl
      have f14x1 := HO3.out.free 1 rfl
      have l14x0 := HO3.out.lt 0 rfl
      have l14x1 := HO3.out.lt 1 rfl
      go_wp2_with fail
      refine (HDV.out _).mono ?_
      rintro e w16 ⟨rfl, hb16⟩
      have O16 := Own.grow' hb16 HO3.out
      try simp only [List.setIfInBounds_toArray, List.set_cons_zero, List.set_cons_succ] at O16
      have bw16 : Below w.heap.size w w16 := Below.trans (by go_grown) (Below.mono hb16 (by first | omega | (simp; done) | (simp; omega)))
      have zw16 := Below.size hb16
      try simp only [World.size_alloc, World.size_drew, World.size_setCell] at zw16
      have hwc16 : Below w3.heap.size w3 w16 := Below.trans (by go_grown) (Below.mono hb16 (by first | omega | (simp; done) | (simp; omega)))
      clear c14x0 c14x1 f14x0 f14x1
      have c16x0 := Own.cell O16 0 rfl
      have f16x0 := Own.free O16 0 rfl
      have l16x0 := Own.lt O16 0 rfl
      have l16x0d0 := le_up 0 l16x0
      have l16x0d1 := le_up 1 l16x0
      simp only [upN] at l16x0d0 l16x0d1
      have c16x1 := Own.cell O16 1 rfl
      have f16x1 := Own.free O16 1 rfl
      have l16x1 := Own.lt O16 1 rfl
      have l16x1d0 := le_up 0 l16x1
      have l16x1d1 := le_up 1 l16x1
      simp only [upN] at l16x1d0 l16x1d1
      have HO16 := Lib.hid O16
      clear O16 hb16
      go_wp2_with fail
      go_region
      all_goals go_wp2_with fail
      refine ⟨⟨k + 1, y, md, ?ha, HDR.out, ?hc, ?hd, ?he⟩, ?hf⟩
      case ha => exact hkl
      case hf => rw [vlen_owns HOW.out, HVL.out]; exact Nat.sub_lt_sub_left hkl (Nat.lt_succ_self _)
      case hd =>
        have ho : Own [(w.heap.size + 1, wc md, 24), (w.heap.size, wc y, 24)] ((((((((w16.setCell ⟨w.heap.size, 0, none⟩ (.int .u64 (L y 0))).setCell ⟨w.heap.size, 1, none⟩ (.int .u64 (L y 1))).setCell ⟨w.heap.size, 2, none⟩ (.int .u64 (L y 2))).setCell ⟨w.heap.size, 3, none⟩ (.int .u64 (L y 3))).setCell ⟨w.heap.size + 1, 0, none⟩ (.int .u64 (L md 0))).setCell ⟨w.heap.size + 1, 1, none⟩ (.int .u64 (L md 1))).setCell ⟨w.heap.size + 1, 2, none⟩ (.int .u64 (L md 2))).setCell ⟨w.heap.size + 1, 3, none⟩ (.int .u64 (L md 3))) := Own.eqv (Own.set (Own.set (Own.set (Own.set (Own.set (Own.set (Own.set (Own.set HO16.out 1 rfl (Ne1.cons (by first | omega | (simp; omega)) Ne1.nil)) 1 rfl (Ne1.cons (by first | omega | (simp; omega)) Ne1.nil)) 1 rfl (Ne1.cons (by first | omega | (simp; omega)) Ne1.nil)) 1 rfl (Ne1.cons (by first | omega | (simp; omega)) Ne1.nil)) 0 rfl (Ne1.cons (by first | omega | (simp; omega)) Ne1.nil)) 0 rfl (Ne1.cons (by first | omega | (simp; omega)) Ne1.nil)) 0 rfl (Ne1.cons (by first | omega | (simp; omega)) Ne1.nil)) 0 rfl (Ne1.cons (by first | omega | (simp; omega)) Ne1.nil)) (by simp only [List.setIfInBounds_toArray, List.set_cons_zero, List.set_cons_succ])
        exact Own.grow' ((Below.refl _ _).drew) (Own.grow' (World.below_alloc _ _) (Own.grow' (World.below_alloc _ _) ho))
      case hc => exact (owns_below (((owns_setO (b := w.heap.size + 1) (o := 3) (owns_setO (b := w.heap.size + 1) (o := 2) (owns_setO (b := w.heap.size + 1) (o := 1) (owns_setO (b := w.heap.size + 1) (o := 0) (owns_setO (b := w.heap.size) (o := 3) (owns_setO (b := w.heap.size) (o := 2) (owns_setO (b := w.heap.size) (o := 1) (owns_setO (b := w.heap.size) (o := 0) (owns_below HOW.out hwc16) (.int .u64 (L y 0)) (Nat.lt_add_of_pos_right (by decide))) (.int .u64 (L y 1)) (Nat.lt_add_of_pos_right (by decide))) (.int .u64 (L y 2)) (Nat.lt_add_of_pos_right (by decide))) (.int .u64 (L y 3)) (Nat.lt_add_of_pos_right (by decide))) (.int .u64 (L md 0)) (Nat.lt_succ_self _)) (.int .u64 (L md 1)) (Nat.lt_succ_self _)) (.int .u64 (L md 2)) (Nat.lt_succ_self _)) (.int .u64 (L md 3)) (Nat.lt_succ_self _)).alloc _).alloc _) ((Below.refl _ _).drew))
      case he => go_grown
end Go.Proofs.Ytjmaigienigpnaa
