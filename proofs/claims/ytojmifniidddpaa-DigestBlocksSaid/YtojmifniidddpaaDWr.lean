/- Walks: the word of bytes. -/
import Derived.Test.YtojmifniidddpaaDWb
import Derived.Test.YtojmifniidddpaaReg
set_option linter.unusedVariables false
set_option linter.unusedSimpArgs false
namespace Go.Proofs.Ytojmifniidddpaa
open Go.RowKit

theorem own1 {w : World} {b : Nat} {c : Array Value} {t : TypeId} (h : Blk w b c t) : Own [(b, c, t)] w := fun p hp => by
  simp at hp; subst hp; exact h
theorem bits_or_nat {X Y : Nat} (hX : X < 2 ^ 64) (hY : Y < 2 ^ 64) : bits .or .u64 ((X : Nat) : Int) ((Y : Nat) : Int) = ((X ||| Y : Nat) : Int) := by
  show IntKind.u64.wrap ((BitVec.ofInt 64 ((X : Nat) : Int) ||| BitVec.ofInt 64 ((Y : Nat) : Int)).toNat : Int) = _
  rw [BitVec.ofInt_natCast, BitVec.ofInt_natCast, BitVec.toNat_or, BitVec.toNat_ofNat, BitVec.toNat_ofNat, Nat.mod_eq_of_lt hX, Nat.mod_eq_of_lt hY]
  have := Nat.or_lt_two_pow hX hY
  exact IntWalk.u64_in _ (by simp only [Nat.reducePow] at this; omega)
theorem or_sh {a c : Nat} (ha : a < 2 ^ 64) (hc : c < 256) (m : Nat) : bits .or .u64 ((a : Nat) : Int) (IntKind.u64.wrap (IntKind.u64.wrap ((c : Nat) : Int) * 2 ^ (8 * (m % 8)))) = ((a ||| sh c (8 * (m % 8)) : Nat) : Int) := by
  have h1 : c * 2 ^ (8 * (m % 8)) < 2 ^ 64 := by
    calc c * 2 ^ (8 * (m % 8)) < 256 * 2 ^ (8 * (m % 8)) := Nat.mul_lt_mul_of_pos_right hc (Nat.pow_pos (by omega))
      _ ≤ 256 * 2 ^ 56 := Nat.mul_le_mul_left _ (Nat.pow_le_pow_right (by omega) (by omega))
      _ = 2 ^ 64 := by decide
  rw [IntWalk.u64_in ((c : Nat) : Int) (by omega)]
  have e : ((c : Nat) : Int) * 2 ^ (8 * (m % 8)) = ((c * 2 ^ (8 * (m % 8)) : Nat) : Int) := by simp
  rw [e, IntWalk.u64_in _ (by simp only [Nat.reducePow] at h1; omega), bits_or_nat ha h1, sh_def, Nat.shiftLeft_eq]
/-- The bytes that are read already, by their places. -/
def fR (xs : List Nat) (k j : Nat) : Nat := if j < xs.length ∧ xs.length - 1 - j < k then xs.getD (xs.length - 1 - j) 0 else 0
theorem fR_zero (xs : List Nat) : fR xs 0 = fun _ => 0 := by funext j; unfold fR; rw [if_neg (by omega)]
theorem ob_none (q : Nat) : ob (fun _ => 0) q = 0 := by simp [ob, sh_zero]
theorem fR_free {xs : List Nat} {k m : Nat} (h : m + k + 1 = xs.length) : fR xs k m = 0 := by unfold fR; rw [if_neg (by omega)]
theorem fR_step {xs : List Nat} {k m c : Nat} (h : m + k + 1 = xs.length) (hc : xs[k]? = some c) : fR xs (k + 1) = upd (fR xs k) m c := by
  funext j
  unfold fR upd
  dsimp only
  by_cases hj : j = m
  · subst hj
    rw [if_pos rfl, if_pos (by omega), show xs.length - 1 - j = k by omega, List.getD_eq_getElem?_getD, hc]; rfl
  · rw [if_neg hj]
    by_cases h1 : j < xs.length ∧ xs.length - 1 - j < k
    · rw [if_pos h1, if_pos (by omega)]
    · rw [if_neg h1, if_neg (by omega)]
theorem fR_lt {xs : List Nat} (h : ∀ x ∈ xs, x < 256) (k j : Nat) : fR xs k j < 256 := by
  unfold fR
  split
  · rw [List.getD_eq_getElem?_getD]
    cases hq : xs[xs.length - 1 - j]? with
    | none => simp
    | some c => exact h c (List.mem_of_getElem? hq)
  · omega
theorem limbs_set {f : Nat → Nat} {k c : Nat} (h : f k = 0) (hk : k / 8 < 4) : (limbs (ob f)).setIfInBounds (k / 8) (.int .u64 ((ob f (k / 8) ||| sh c (8 * (k % 8)) : Nat) : Int)) = limbs (ob (upd f k c)) := by
  have e : ∀ q, q < 4 → ((ob (upd f k c) q : Nat) : Int) = if q = k / 8 then ((ob f (k / 8) ||| sh c (8 * (k % 8)) : Nat) : Int) else ((ob f q : Nat) : Int) := fun q hq => by
    by_cases hqk : q = k / 8
    · rw [if_pos hqk, hqk, ob_step h]
    · rw [if_neg hqk, ob_other hqk]
  unfold limbs
  rw [e 0 (by omega), e 1 (by omega), e 2 (by omega), e 3 (by omega)]
  rcases (by omega : k / 8 = 0 ∨ k / 8 = 1 ∨ k / 8 = 2 ∨ k / 8 = 3) with hq | hq | hq | hq <;> rw [hq] <;> simp
def ReadRel (xs : List Nat) (w : World) (i : Value) (wr : World) : Prop :=
  ∃ k : Nat, k ≤ xs.length ∧ i = .int .i64 k ∧ Blk wr w.heap.size (limbs (ob (fR xs k))) 43 ∧ Below w.heap.size w wr
def natC (xs : List Nat) : List Value := bytesC (xs.map fun x => ((x : Nat) : Int))
set_option maxRecDepth 20000 in
set_option maxHeartbeats 1000000 in
theorem wordRead_any (A : Option Addr) (xs : List Nat) (cap : Nat) (w : World) (hxs : SlAt w A (natC xs)) (hcap : xs.length ≤ cap) (hn : xs.length ≤ 32) (hb8 : ∀ x ∈ xs, x < 256) :
    Calls Try.prog 28 #[.slice A xs.length cap] w fun e w' => e = .returned (.tuple #[.agg (limbs (ob (fR xs xs.length))), .int .i64 0]) ∧ Below w.heap.size w w' := by
  have HX := Lib.hid hxs
  have HB8 := Lib.hid hb8
  clear hxs hb8
  generalize hln : xs.length = n at *
  have hd : decide ((32 : Int) < ((n : Nat) : Int)) = false := decide_eq_false (by omega)
  go_enter Try.func28, Try.ntmps28
  go_wp2_with fail
  go_loopw [13] (fun i wr => ReadRel xs w i wr) (fun i _ => n - (intOf i).toNat)
  case atStart =>
    refine ⟨0, Nat.zero_le _, rfl, ?_, ?_⟩
    · rw [fR_zero]; unfold Blk limbs; simp only [ob_none]; exact heap_alloc_new _ _
    · go_grown
  case round =>
    obtain ⟨k, hk, rfl, hblk, hb⟩ := hrel
    by_cases hlt : k < n
    · obtain ⟨c, hx⟩ : ∃ x, xs[k]? = some x := ⟨xs[k], by simp [hln, hlt]⟩
      obtain ⟨b, off, rfl, hbl, hcell⟩ := HX.out.cell (bytesC_at (k := k) (x := ((c : Nat) : Int)) (by simp [hx]))
      have hc0 : wr.cell? ⟨b, off + k, none⟩ = some (.int .u8 ((c : Nat) : Int)) := (hb.cell (p := ⟨b, off + k, none⟩) hbl).trans (hcell k _ (bytesC_at (by simp [hx])))
      obtain ⟨m, hm⟩ : ∃ m : Nat, m + k + 1 = xs.length := ⟨n - 1 - k, by omega⟩
      have hmi : ((n : Nat) : Int) - 1 - ((k : Nat) : Int) = ((m : Nat) : Int) := by omega
      have hm32 : m < 32 := by omega
      have hsz := hb.size
      have hlb := hblk.lt
      clear hcell
      go_wp2_with fail
      go_wp2_with fail
      refine wp_region_grow wr.heap.size 12 0 0 [(0, 0, 8388608, 64), (1, 1, 16777216, 8388608), (2, 2, 33554432, 16777220), (3, 4, 67108864, 33554432), (4, 0, 134217728, 32), (5, 16, 268435456, 134217728), (6, 0, 536870912, 64), (7, 64, 1073741824, 536870912), (8, 128, 2147483648, 1073741824), (9, 288, 4294967296, 2415919104), (10, 520, 8589934592, 4362076160), (11, 2047, 17179869184, 16777220), (12, 4095, 0, 25769803776)] [(.p 0, 1), (.p 1, 3), (.p 2, 7), (.p 3, 15), (.p 4, 31), (.p 5, 63), (.p 6, 127), (.p 7, 255), (.p 8, 511), (.p 9, 1023), (.p 10, 2047), (.p 11, 4095)] [(12, 8191)] _ (fun p hp => hp) (by first | omega | (simp; done) | (simp; omega)) (by kernel_rfl) (by kernel_rfl) (own1 hblk) ?_
      refine wpG_move (i := 0) rfl rfl rfl (by rfl) rfl ?_
      simp only [List.set_cons_zero, List.set_cons_succ]
      refine wpG_pure (i := 1) (v := ?v1x1) rfl rfl (by rfl) (fun w hB hG K hK => ?h1x1) ?_
      case h1x1 =>
        go_wp2_with fail
        exact hK _ (Below.refl _ _)
      simp only [List.set_cons_zero, List.set_cons_succ]
      refine wpG_pure (i := 2) (v := ?v1x2) rfl rfl (by rfl) (fun w hB hG K hK => ?h1x2) ?_
      case h1x2 =>
        go_wp2_with fail
        exact hK _ (Below.refl _ _)
      simp only [List.set_cons_zero, List.set_cons_succ]
      refine wpG_pure (i := 3) (v := ?v1x3) rfl rfl (by rfl) (fun w hB hG K hK => ?h1x3) ?_
      case h1x3 =>
        have hcx := (hG.cell 0 rfl (m / 8)).trans (limbs_at (ob (fR xs k)) (show m / 8 < 4 by omega))
        have cx := hG.cell 0 rfl
        go_wp2_with fail
        exact hK _ (Below.refl _ _)
      simp only [List.set_cons_zero, List.set_cons_succ]
      refine wpG_move (i := 4) rfl rfl rfl (by rfl) rfl ?_
      simp only [List.set_cons_zero, List.set_cons_succ]
      refine wpG_pure (i := 5) (v := ?v1x5) rfl rfl (by rfl) (fun w hB hG K hK => ?h1x5) ?_
      case h1x5 =>
        go_wp2_with fail
        exact hK _ (Below.refl _ _)
      simp only [List.set_cons_zero, List.set_cons_succ]
      refine wpG_move (i := 6) rfl rfl rfl (by rfl) rfl ?_
      simp only [List.set_cons_zero, List.set_cons_succ]
      refine wpG_pure (i := 7) (v := ?v1x7) rfl rfl (by rfl) (fun w hB hG K hK => ?h1x7) ?_
      case h1x7 =>
        go_wp2_with fail
        exact hK _ (Below.refl _ _)
      simp only [List.set_cons_zero, List.set_cons_succ]
      refine wpG_pure (i := 8) (v := ?v1x8) rfl rfl (by rfl) (fun w hB hG K hK => ?h1x8) ?_
      case h1x8 =>
        go_wp2_with fail
        exact hK _ (Below.refl _ _)
      simp only [List.set_cons_zero, List.set_cons_succ]
      refine wpG_pure (i := 9) (v := ?v1x9) rfl rfl (by rfl) (fun w hB hG K hK => ?h1x9) ?_
      case h1x9 =>
        go_wp2_with fail
        exact hK _ (Below.refl _ _)
      simp only [List.set_cons_zero, List.set_cons_succ]
      refine wpG_pure (i := 10) (v := ?v1x10) rfl rfl (by rfl) (fun w hB hG K hK => ?h1x10) ?_
      case h1x10 =>
        go_wp2_with fail
        exact hK _ (Below.refl _ _)
      simp only [List.set_cons_zero, List.set_cons_succ]
      refine wpG_pure (i := 11) (v := ?v1x11) rfl rfl (by rfl) (fun w hB hG K hK => ?h1x11) ?_
      case h1x11 =>
        go_wp2_with fail
        exact hK _ (Below.refl _ _)
      simp only [List.set_cons_zero, List.set_cons_succ]
      refine wpG_nil (fun w1 hb1 hG1 => ?_)
      simp only [List.append_eq, List.cons_append, List.nil_append, List.drop_succ_cons, List.drop_zero, List.drop_nil]
      have O1 := Own.of hG1
      try simp only [List.setIfInBounds_toArray, List.set_cons_zero, List.set_cons_succ] at O1
      have bw1 : Below wr.heap.size wr w1 := Below.trans (by go_grown) (Below.mono hb1 (by first | omega | (simp; done) | (simp; omega)))
      have zw1 := Below.size hb1
      try simp only [World.size_alloc, World.size_drew, World.size_setCell] at zw1
      have c1x0 := O1.cell 0 rfl
      have f1x0 := O1.free 0 rfl
      have l1x0 := O1.lt 0 rfl
      have l1x0d0 := le_up 0 l1x0
      have l1x0d1 := le_up 1 l1x0
      simp only [upN] at l1x0d0 l1x0d1
      have HO1 := Lib.hid O1
      clear O1 hb1

      have hcs := (HO1.out.cell 0 rfl (m / 8)).trans (limbs_at (ob (fR xs k)) (show m / 8 < 4 by omega))
      have hfs : w1.frozen? ⟨w.heap.size, m / 8, none⟩ = false := HO1.out.free 0 rfl (m / 8)
      have hbk := Blk.set (HO1.out.get 0 rfl) (m / 8) (.int .u64 ((ob (fR xs k) (m / 8) ||| sh c (8 * (m % 8)) : Nat) : Int))
      rw [limbs_set (fR_free hm) (by omega), ← fR_step hm hx] at hbk
      have hbw : Below w.heap.size w (w1.setCell ⟨w.heap.size, m / 8, none⟩ (.int .u64 ((ob (fR xs k) (m / 8) ||| sh c (8 * (m % 8)) : Nat) : Int))) := (hb.trans (bw1.mono hb.size)).setCell (Nat.le_refl _) _
      have hor := or_sh (ob_lt (fR_lt HB8.out k) (m / 8)) (HB8.out c (List.mem_of_getElem? hx)) m
      have HK := Lib.hid hbk
      have HW := Lib.hid hbw
      clear hbk hbw bw1 hc0 c1x0
      go_wp2_with fail
      exact ⟨⟨k + 1, by omega, by go_num, HK.out, HW.out⟩, by simp [intOf]; omega⟩
    · obtain rfl : k = n := by omega
      have h0 := hblk.cell 0
      have h1 := hblk.cell 1
      have h2 := hblk.cell 2
      have h3 := hblk.cell 3
      have f := hblk.free
      have HB := Lib.hid hb
      clear hb hblk
      go_wp2_with fail
      refine bodyPost_ret (v := .tuple #[.agg (limbs (ob (fR xs k))), .int .i64 0]) (by simp [results, Try.results28, go_sem, *]) rfl ?_
      refine ⟨rfl, ?_⟩
      have := HB.out
      go_grown
end Go.Proofs.Ytojmifniidddpaa
