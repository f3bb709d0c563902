/- A word as text, by the document. -/
import Derived.Test.YtojmifniidddpaaDRb
import Derived.Test.YtojmifniidddpaaRngB
set_option linter.unusedVariables false
set_option linter.unusedSimpArgs false
namespace Go.Proofs.Ytojmifniidddpaa
open Go.RowKit

def txD (f : Nat → Nat) (k : Nat) : Nat := (if k % 2 = 0 then f (k / 2) / 16 else f (k / 2)) % 16
def hexD : ByteArray := ⟨#[48, 49, 50, 51, 52, 53, 54, 55, 56, 57, 97, 98, 99, 100, 101, 102]⟩
def txS (f : Nat → Nat) : Nat → ByteArray
  | 0 => ⟨#[]⟩
  | k + 1 => if txS f k ≠ ⟨#[]⟩ ∨ 0 < txD f k ∨ k = 63 then txS f k ++ hexD.extract (txD f k) (txD f k + 1) else txS f k
theorem txS_size (f : Nat → Nat) : ∀ k, (txS f k).size ≤ k
  | 0 => Nat.le_refl _
  | k + 1 => by
    have := txS_size f k
    unfold txS
    split
    · rw [ByteArray.size_append, ByteArray.size_extract]; omega
    · omega
theorem txS_succ (f : Nat → Nat) (k : Nat) : txS f (k + 1) = if txS f k ≠ ⟨#[]⟩ ∨ 0 < txD f k ∨ k = 63 then txS f k ++ hexD.extract (txD f k) (txD f k + 1) else txS f k := rfl
theorem txS_zero (f : Nat → Nat) : txS f 0 = ⟨#[]⟩ := rfl
attribute [local irreducible] txS
def TxRel (f : Nat → Nat) (W : World) (s i : Value) (wr : World) : Prop := ∃ k : Nat, k ≤ 64 ∧ i = .int .i64 k ∧ s = .string (txS f k) ∧ W = wr
set_option maxRecDepth 20000 in
set_option maxHeartbeats 4000000 in
theorem refText_any (x : Nat → Nat) (w : World) (hx : ∀ q, x q < 2 ^ 64) :
    Calls Try.prog 19 #[.agg (limbs x)] w fun e w' => e = .returned (.string (⟨#[48, 120]⟩ ++ txS (fun j => byteAt x (31 - j)) 64)) ∧ Below w.heap.size w w' := by
  have hf0 : ∀ j, byteAt x (31 - j) < 256 := fun j => Nat.mod_lt _ (by decide)
  obtain ⟨f, hfe⟩ : ∃ f : Nat → Nat, f = fun j => byteAt x (31 - j) := ⟨_, rfl⟩
  have hf : ∀ j, f j < 256 := by rw [hfe]; exact hf0
  have HB := Lib.hid (fun V => show Calls Try.prog 29 #[.agg (limbs x)] V fun e w' => e = .returned (.agg (arr32 fun j => ((f j : Nat) : Int))) ∧ Below V.heap.size V w' by rw [hfe]; exact refWordBytes_any x V hx)
  rw [← hfe]
  have hi3 : (Try.prog.info? 39).map (·.size) = some 32 := by kernel_rfl
  have HI3 := Lib.hid hi3
  clear hx hi3 hfe hf0
  go_enter Try.func19, Try.ntmps19
  go_wp2_with fail
  refine (HB.out _).mono ?_
  rintro e w1 ⟨rfl, hb1⟩
  have hb0 : Below w.heap.size w w1 := (World.below_alloc w _).trans (hb1.mono (by simp))
  have HNW := Lib.hid (show Blk (w1.alloc (.cells (arr32 fun _ => 0) 39)) w1.heap.size (arr32 fun _ => 0) 39 from heap_alloc_new _ _)
  have HB0 := Lib.hid hb0
  clear hb1 hb0
  go_wp2_with (first
    | (refine wpList_store_row rfl 39 (.tmp 3) (.tmp 8) (by with_reducible rfl) _ _ rfl rfl _ _ HNW.out HI3.out rfl (by simp [Value.oneCell']) ?_))
  refine wp_name fun V hV => ?_
  have hBV : Below w.heap.size w V := by
    rw [hV]
    exact below_setRow (HB0.out.trans ((World.below_alloc w1 _).mono HB0.out.size)) HB0.out.size _
  have hv1 : Blk V w1.heap.size (arr32 fun j => ((f j : Nat) : Int)) 39 := by rw [hV]; exact setRow_heap _ _ _ _ _ _ HNW.out
  have HV1 := Lib.hid hv1
  have HBV := Lib.hid hBV
  have hlv := hv1.lt
  generalize w1.heap.size = b at *
  clear hV hBV hv1 HNW HB0
  go_loopw [4, 5] (fun s i wr => TxRel f V s i wr) (fun _ i _ => 64 - (intOf i).toNat)
  case atStart => exact ⟨0, Nat.zero_le _, rfl, by rw [txS_zero], rfl⟩
  case round =>
    obtain ⟨k, hk, rfl, rfl, rfl⟩ := hrel
    by_cases hlt : k < 64
    · have hc := (HV1.out.cell (k / 2)).trans (arr32_at (fun j => ((f j : Nat) : Int)) (show k / 2 < 32 by omega))
      have hfk := hf (k / 2)
      have HSU := Lib.hid (show txS f (k + 1) = if txS f k ≠ ⟨#[]⟩ ∨ 0 < txD f k ∨ k = 63 then txS f k ++ hexD.extract (txD f k) (txD f k + 1) else txS f k from txS_succ f k)
      have hsz := txS_size f k
      have hd16 : txD f k < 16 := Nat.mod_lt _ (by decide)
      have hdv : (txD f k : Int) = ((if k % 2 = 0 then f (k / 2) / 16 else f (k / 2)) % 16 : Nat) := rfl
      generalize txD f k = d at *
      generalize txS f k = s at *
      generalize hs1e : txS f (k + 1) = s1 at *
      generalize f (k / 2) = fk at *
      have hW : ((fk : Nat) : Int) / 16 % 16 = ((fk / 16 % 16 : Nat) : Int) := by omega
      by_cases hev : k % 2 = 0
      · rw [if_pos hev] at hdv
        have hm : ((k : Nat) : Int) % 2 = 0 := by omega
        have hdd : ((fk : Nat) : Int) / 16 % 16 = ((d : Nat) : Int) := by omega
        clear hdv hf hW
        go_upto_region 10 with (fail)
        rw [hdd]
        clear hdd
        by_cases hs : s.toList = []
        · have hs1 : (s.toList == []) = true := by simpa using hs
          have hse : s = ⟨#[]⟩ := by
            cases s with | mk a => cases a with | mk l =>
              simp only [ByteArray.toList_eq] at hs
              subst hs
              rfl
          have HE := Lib.hid hse
          clear hs hse
          by_cases h63 : k = 63
          · have hb : (((k : Nat) : Int) == 63) = true := by simp; omega
            have HS := Lib.hid (show s1 = s ++ hexD.extract d (d + 1) by rw [HSU.out, if_pos (.inr (.inr h63))])
            clear HSU HB HE
            by_cases hd : 0 < d
            · have hd1 : decide (0 < d) = true := by simpa using hd
              clear h63
              go_wp2_with fail
              exact ⟨⟨k + 1, by omega, rfl, by rw [hs1e, HS.out]; rfl, rfl⟩, by simp [intOf]; omega⟩
            · have hd1 : decide (0 < d) = false := by simpa using hd
              clear h63
              go_wp2_with fail
              exact ⟨⟨k + 1, by omega, rfl, by rw [hs1e, HS.out]; rfl, rfl⟩, by simp [intOf]; omega⟩
          · have hb : (((k : Nat) : Int) == 63) = false := by simp; omega
            by_cases hd : 0 < d
            · have HS := Lib.hid (show s1 = s ++ hexD.extract d (d + 1) by rw [HSU.out, if_pos (.inr (.inl hd))])
              have hd1 : decide (0 < d) = true := by simpa using hd
              clear HSU HB HE h63
              go_wp2_with fail
              exact ⟨⟨k + 1, by omega, rfl, by rw [hs1e, HS.out]; rfl, rfl⟩, by simp [intOf]; omega⟩
            · have HS := Lib.hid (show s1 = s by rw [HSU.out, if_neg (by rintro (h | h | h); exact h HE.out; exact hd h; exact h63 h)])
              have hd1 : decide (0 < d) = false := by simpa using hd
              clear HSU HB HE h63
              go_wp2_with fail
              exact ⟨⟨k + 1, by omega, rfl, by rw [hs1e, HS.out], rfl⟩, by simp [intOf]; omega⟩
        · have hs1 : (s.toList == []) = false := by simpa using hs
          have hse : s ≠ ⟨#[]⟩ := fun h => hs (by rw [h, ByteArray.toList_eq])
          have HS := Lib.hid (show s1 = s ++ hexD.extract d (d + 1) by rw [HSU.out, if_pos (.inl hse)])
          clear HSU HB hse hs
          go_wp2_with fail
          exact ⟨⟨k + 1, by omega, rfl, by rw [hs1e, HS.out]; rfl, rfl⟩, by simp [intOf]; omega⟩
      · rw [if_neg hev] at hdv
        have hm : ((k : Nat) : Int) % 2 = 1 := by omega
        have hdd : ((fk : Nat) : Int) % 16 = ((d : Nat) : Int) := by omega
        clear hdv hf hW
        go_upto_region 10 with (fail)
        rw [hdd]
        clear hdd
        by_cases hs : s.toList = []
        · have hs1 : (s.toList == []) = true := by simpa using hs
          have hse : s = ⟨#[]⟩ := by
            cases s with | mk a => cases a with | mk l =>
              simp only [ByteArray.toList_eq] at hs
              subst hs
              rfl
          have HE := Lib.hid hse
          clear hs hse
          by_cases h63 : k = 63
          · have hb : (((k : Nat) : Int) == 63) = true := by simp; omega
            have HS := Lib.hid (show s1 = s ++ hexD.extract d (d + 1) by rw [HSU.out, if_pos (.inr (.inr h63))])
            clear HSU HB HE
            by_cases hd : 0 < d
            · have hd1 : decide (0 < d) = true := by simpa using hd
              clear h63
              go_wp2_with fail
              exact ⟨⟨k + 1, by omega, rfl, by rw [hs1e, HS.out]; rfl, rfl⟩, by simp [intOf]; omega⟩
            · have hd1 : decide (0 < d) = false := by simpa using hd
              clear h63
              go_wp2_with fail
              exact ⟨⟨k + 1, by omega, rfl, by rw [hs1e, HS.out]; rfl, rfl⟩, by simp [intOf]; omega⟩
          · have hb : (((k : Nat) : Int) == 63) = false := by simp; omega
            by_cases hd : 0 < d
            · have HS := Lib.hid (show s1 = s ++ hexD.extract d (d + 1) by rw [HSU.out, if_pos (.inr (.inl hd))])
              have hd1 : decide (0 < d) = true := by simpa using hd
              clear HSU HB HE h63
              go_wp2_with fail
              exact ⟨⟨k + 1, by omega, rfl, by rw [hs1e, HS.out]; rfl, rfl⟩, by simp [intOf]; omega⟩
            · have HS := Lib.hid (show s1 = s by rw [HSU.out, if_neg (by rintro (h | h | h); exact h HE.out; exact hd h; exact h63 h)])
              have hd1 : decide (0 < d) = false := by simpa using hd
              clear HSU HB HE h63
              go_wp2_with fail
              exact ⟨⟨k + 1, by omega, rfl, by rw [hs1e, HS.out], rfl⟩, by simp [intOf]; omega⟩
        · have hs1 : (s.toList == []) = false := by simpa using hs
          have hse : s ≠ ⟨#[]⟩ := fun h => hs (by rw [h, ByteArray.toList_eq])
          have HS := Lib.hid (show s1 = s ++ hexD.extract d (d + 1) by rw [HSU.out, if_pos (.inl hse)])
          clear HSU HB hse hs
          go_wp2_with fail
          exact ⟨⟨k + 1, by omega, rfl, by rw [hs1e, HS.out]; rfl, rfl⟩, by simp [intOf]; omega⟩
    · obtain rfl : k = 64 := by omega
      have hsz := txS_size f 64
      go_wp2_with fail
      go_ret
      exact ⟨rfl, HBV.out⟩
end Go.Proofs.Ytojmifniidddpaa
