/- Euclid's pairs, as a range over a function. No condition. -/
import Derived.Test.YtjmaigienigpnaaSpI
import Derived.Test.YtjmaigienigpnaaRngM
import Derived.Test.YtjmaigienigpnaaRngC
import Derived.Test.YtjmaigienigpnaaGrw
import Derived.Shelf.Abstract
import Derived.RegionIn
import Derived.OwnWalkIn
import Derived.TacticsInMore
import Derived.LoopNIn
import Derived.LoopIn
set_option linter.unusedVariables false
set_option linter.unusedSimpArgs false
namespace Go.Proofs.Ytjmaigienigpnaa
open Go.RowKit

attribute [local go_sem] Oper.semAt_some
abbrev prC (p : BitVec 256 × BitVec 256) : Array Value := #[.int .u64 (L p.1 0), .int .u64 (L p.1 1), .int .u64 (L p.1 2), .int .u64 (L p.1 3), .int .u64 (L p.2 0), .int .u64 (L p.2 1), .int .u64 (L p.2 2), .int .u64 (L p.2 3)]
abbrev encPr : Nat → BitVec 256 × BitVec 256 → Array Value := fun _ p => #[.agg (prC p)]
theorem prC_inj {p q : BitVec 256 × BitVec 256} (h : prC p = prC q) : p = q := by
  simp only [prC, Array.mk.injEq, List.cons.injEq, Value.int.injEq, true_and, and_true] at h
  obtain ⟨h1, h2, h3, h4, h5, h6, h7, h8⟩ := h
  exact Prod.ext (L_ext h1 h2 h3 h4) (L_ext h5 h6 h7 h8)
noncomputable def prLeft (bp : Nat) (wr : World) : Nat := open Classical in if h : ∃ p, Blk wr bp (prC p) 43 then (pairsL h.choose.1 h.choose.2).length else 0
theorem prLeft_eq {bp : Nat} {wr : World} {p : BitVec 256 × BitVec 256} (hb : Blk wr bp (prC p) 43) : prLeft bp wr = (pairsL p.1 p.2).length := by
  have h : ∃ p, Blk wr bp (prC p) 43 := ⟨p, hb⟩
  unfold prLeft
  rw [dif_pos h]
  have h2 := h.choose_spec
  have e : prC h.choose = prC p := by
    have h3 : some (Obj.cells (prC h.choose) 43 (0, 0)) = some (Obj.cells (prC p) 43 (0, 0)) := (show _ = _ from h2).symm.trans hb
    simpa using h3
  rw [prC_inj e]
def PairsRel (J : Nat → World → Prop) (xs : List (BitVec 256 × BitVec 256)) (bp : Nat) (S : Nat → Prop) (w0 wr : World) : Prop :=
  ∃ (k : Nat) (x y : BitVec 256), k ≤ xs.length ∧ xs.drop k = pairsL x y ∧ J k wr ∧ Blk wr bp (prC (x, y)) 43 ∧ Keep (fun q => S q ∧ q ≠ bp) w0 wr
set_option maxHeartbeats 4000000 in
set_option maxRecDepth 20000 in
theorem pairs1_seq (bp : Nat) (a b : BitVec 256) (w0 : World) (S : Nat → Prop) (hc : Blk w0 bp (prC (a, b)) 43) (hb : S bp) :
    SeqM Try.prog 51 #[.pointer (some ⟨bp, 0, none⟩)] encPr (pairsL a b) S (· = bp) w0 := by
  intro l J Jx W hW hJ hJx hY h0
  have hcW := hW.blk hc hb
  have HY := Lib.hid hY
  have HJ := Lib.hid hJ
  have HX := Lib.hid hJx
  have HBP := Lib.hid hb
  clear hY hJ hJx hc
  generalize hxe : pairsL a b = xs at *
  refine (callsIn_wide (n := 0)).1 (callsIn_of_wp Try.func51 rfl trivial ?_ rfl)
  simp only [Try.ntmps51, List.size_toArray, List.length_cons, List.length_nil, Nat.reduceAdd, Nat.reduceSub, Array.replicate_succ, Array.replicate_zero, List.push_toArray, List.append_toArray, List.nil_append, List.cons_append]
  gi_wp2
  gi_loopw [] (fun wr => PairsRel J xs bp S w0 wr) (fun wr => prLeft bp wr)
  case atStart => exact ⟨0, a, b, Nat.zero_le _, by rw [List.drop_zero, hxe], h0, hcW, hW.mono (fun k h => h.1)⟩
  case round =>
    obtain ⟨k, x, y, hk, hdr, hj, hblk, hkp⟩ := hrel
    clear hcW
    have hcx := hblk.cell
    have hfx := hblk.free
    have hlx := hblk.lt
    have hq := eqZ x
    have HM0 := Lib.hid (prLeft_eq hblk)
    by_cases hx0 : x = 0#256
    · rw [decide_eq_true hx0] at hq
      have HX0 := Lib.hid hx0
      clear hx0
      gi_wp2
      go_end0
      refine ⟨⟨_, rfl⟩, .inl ?_⟩
      rw [HX0.out, pairsL_nil, List.drop_eq_nil_iff] at hdr
      rw [show k = xs.length by omega] at hj
      exact hj
    · rw [decide_eq_false hx0] at hq
      have hpc := pairsL_cons y hx0
      rw [hpc] at hdr
      have hxs : xs[k]? = some (x, y) := by rw [← List.head?_drop, hdr]; rfl
      have hdr2 : xs.drop (k + 1) = pairsL y (modW x y) := by rw [← List.tail_drop, hdr]; rfl
      have hkl : k < xs.length := (List.getElem?_eq_some_iff.1 hxs).1
      have HMD := Lib.hid (fun V => modW_any x y V)
      rw [show pairsL (x, y).1 (x, y).2 = pairsL x y from rfl, hpc] at HM0
      obtain ⟨fn, tmps, assign, body, hy, hR⟩ := HY.out k (x, y) _ hxs hj
      try simp only [encPr, prC] at hy
      have HDR := Lib.hid hdr2
      clear hdr hpc hxs hdr2 hj
      generalize hme : modW x y = md at *
      gi_wp2
      refine ⟨rfl, ?_⟩
      refine hR.mono ?_
      rintro e V (⟨rfl, hJ', hk'⟩ | ⟨rfl, hJx', _⟩)
      · have hblk2 := hk'.blk hblk (.inl HBP.out)
        have hkv := hkp.trans (hk'.mono (fun _ h => .inl h.1))
        have HJ2 := Lib.hid hJ'
        have HKV := Lib.hid hkv
        clear hk' hkp hJ' hkv hcx hfx hlx hblk hy hR hq
        have hcx := hblk2.cell
        have hfx := hblk2.free
        have hlx := hblk2.lt
        gi_wp2
        refine wpIn_wide.2 ?_
        go_wp2_with fail
        refine wp_region_grow V.heap.size 8 0 0 [(0, 0, 2048, 2), (1, 1, 4096, 2048), (2, 0, 8192, 2), (3, 4, 16384, 8192), (4, 0, 32768, 2), (5, 16, 65536, 32768), (6, 40, 131072, 81920), (7, 66, 262144, 135168), (8, 255, 0, 262146)] [(.p 0, 1), (.p 1, 3), (.p 2, 7), (.p 3, 15), (.p 4, 31), (.p 5, 63), (.p 6, 127), (.p 7, 255)] [(8, 511)] _ (fun p hp => hp) (by first | omega | (simp; done) | (simp; omega)) (by kernel_rfl) (by kernel_rfl) (own1 hblk2) ?_
        refine wpG_pure (i := 0) (v := ?v16x0) rfl rfl (by rfl) (fun w hB hG K hK => ?h16x0) ?_
        case h16x0 =>
          go_wp2_with fail
          exact hK _ (Below.refl _ _)
        simp only [List.set_cons_zero, List.set_cons_succ]
        refine wpG_pure (i := 1) (v := ?v16x1) rfl rfl (by rfl) (fun w hB hG K hK => ?h16x1) ?_
        case h16x1 =>
          have cx := Own.cell hG 0 rfl
          go_wp2_with fail
          exact hK _ (Below.refl _ _)
        simp only [List.set_cons_zero, List.set_cons_succ]
        refine wpG_pure (i := 2) (v := ?v16x2) rfl rfl (by rfl) (fun w hB hG K hK => ?h16x2) ?_
        case h16x2 =>
          go_wp2_with fail
          exact hK _ (Below.refl _ _)
        simp only [List.set_cons_zero, List.set_cons_succ]
        refine wpG_pure (i := 3) (v := ?v16x3) rfl rfl (by rfl) (fun w hB hG K hK => ?h16x3) ?_
        case h16x3 =>
          have cx := Own.cell hG 0 rfl
          go_wp2_with fail
          exact hK _ (Below.refl _ _)
        simp only [List.set_cons_zero, List.set_cons_succ]
        refine wpG_pure (i := 4) (v := ?v16x4) rfl rfl (by rfl) (fun w hB hG K hK => ?h16x4) ?_
        case h16x4 =>
          go_wp2_with fail
          exact hK _ (Below.refl _ _)
        simp only [List.set_cons_zero, List.set_cons_succ]
        refine wpG_pure (i := 5) (v := ?v16x5) rfl rfl (by rfl) (fun w hB hG K hK => ?h16x5) ?_
        case h16x5 =>
          have cx := Own.cell hG 0 rfl
          go_wp2_with fail
          exact hK _ (Below.refl _ _)
        simp only [List.set_cons_zero, List.set_cons_succ]
        refine wpG_pure (i := 6) (v := ?v16x6) rfl rfl (by rfl) (fun w hB hG K hK => ?h16x6) ?_
        case h16x6 =>
          go_wp2_with fail
          refine (HMD.out _).mono ?_
          rintro e wx ⟨rfl, hbx⟩
          exact hK _ hbx
        simp only [List.set_cons_zero, List.set_cons_succ]
        refine wpG_pure (i := 7) (v := ?v16x7) rfl rfl (by rfl) (fun w hB hG K hK => ?h16x7) ?_
        case h16x7 =>
          go_wp2_with fail
          exact hK _ (Below.refl _ _)
        simp only [List.set_cons_zero, List.set_cons_succ]
        refine wpG_nil (fun w16 hb16 hG16 => ?_)
        simp only [List.append_eq, List.cons_append, List.nil_append, List.drop_succ_cons, List.drop_zero, List.drop_nil]
        have O16 := Own.of hG16
        try simp only [List.setIfInBounds_toArray, List.set_cons_zero, List.set_cons_succ] at O16
        have bw16 : Below V.heap.size V w16 := Below.trans (by go_grown) (Below.mono hb16 (by first | omega | (simp; done) | (simp; omega)))
        have zw16 := Below.size hb16
        try simp only [World.size_alloc, World.size_drew, World.size_setCell] at zw16
        have c16x0 := Own.cell O16 0 rfl
        have f16x0 := Own.free O16 0 rfl
        have l16x0 := Own.lt O16 0 rfl
        have l16x0d0 := le_up 0 l16x0
        have l16x0d1 := le_up 1 l16x0
        simp only [upN] at l16x0d0 l16x0d1
        have HO16 := Lib.hid O16
        clear O16 hb16
        go_wp2_with fail
        have hgr := (grownBy_setr (grownBy_setr (grownBy_setr (grownBy_setr (grownBy_setr (grownBy_setr (grownBy_setr (grownBy_setr (grownBy_below bw16 (some bp)) bp 0 (.int .u64 (L y 0))) bp 1 (.int .u64 (L y 1))) bp 2 (.int .u64 (L y 2))) bp 3 (.int .u64 (L y 3))) bp 4 (.int .u64 (L md 0))) bp 5 (.int .u64 (L md 1))) bp 6 (.int .u64 (L md 2))) bp 7 (.int .u64 (L md 3)))
        have hown : Own [(bp, prC (y, md), 43)] ((((((((w16.setCell ⟨bp, 0, none⟩ (.int .u64 (L y 0))).setCell ⟨bp, 1, none⟩ (.int .u64 (L y 1))).setCell ⟨bp, 2, none⟩ (.int .u64 (L y 2))).setCell ⟨bp, 3, none⟩ (.int .u64 (L y 3))).setCell ⟨bp, 4, none⟩ (.int .u64 (L md 0))).setCell ⟨bp, 5, none⟩ (.int .u64 (L md 1))).setCell ⟨bp, 6, none⟩ (.int .u64 (L md 2))).setCell ⟨bp, 7, none⟩ (.int .u64 (L md 3))) := Own.eqv (Own.set (Own.set (Own.set (Own.set (Own.set (Own.set (Own.set (Own.set HO16.out 0 rfl Ne1.nil) 0 rfl Ne1.nil) 0 rfl Ne1.nil) 0 rfl Ne1.nil) 0 rfl Ne1.nil) 0 rfl Ne1.nil) 0 rfl Ne1.nil) 0 rfl Ne1.nil) (by simp only [List.setIfInBounds_toArray, List.set_cons_zero, List.set_cons_succ])
        have hbl := Own.get hown 0 rfl
        refine ⟨⟨k + 1, y, md, by omega, HDR.out, HJ.out _ _ _ _ HJ2.out hgr (fun r e => by cases e; exact .inr rfl), hbl, keep_grown HKV.out hgr (.inl (fun h => h.2 rfl))⟩, ?_⟩
        rw [prLeft_eq hbl, HM0.out]
        exact Nat.lt_succ_self _
      · clear hy hR hkp hcx hfx hq
        gi_wp2
        refine bodyPost_ret (results_none rfl _ _ _) rfl ?_
        exact ⟨⟨_, rfl⟩, .inr ⟨k + 1, by omega, hJx'⟩⟩
theorem pairs_any (p : BitVec 256 × BitVec 256) (w : World) : Calls Try.prog 38 #[.agg (prC p)] w fun e w' => e = .returned (.func (.func 51) #[] #[.pointer (some ⟨w.heap.size, 0, none⟩)]) ∧ w' = w.alloc (.cells (prC p) 43) := by
  go_enter Try.func38, Try.ntmps38
  go_wp2_with fail
  go_ret
  exact ⟨rfl, rfl⟩
end Go.Proofs.Ytjmaigienigpnaa
