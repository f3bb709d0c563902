/- Walks: the word of bytes, by the document. -/
import Derived.Test.YtknkepokkenokaaRf
set_option linter.unusedVariables false
set_option linter.unusedSimpArgs false
namespace Go.Proofs.Ytknkepokkenokaa
open Go.RowKit

/-- The bytes that are laid already. -/
def gR (xs : List Nat) (k j : Nat) : Nat := if 32 - xs.length ≤ j ∧ j < 32 - xs.length + k then xs.getD (j - (32 - xs.length)) 0 else 0
theorem gR_zero (xs : List Nat) (j : Nat) : gR xs 0 j = 0 := by unfold gR; rw [if_neg (by omega)]
theorem gR_step {xs : List Nat} {k c : Nat} (hc : xs[k]? = some c) : (fun j => if j = 32 - xs.length + k then ((c : Nat) : Int) else ((gR xs k j : Nat) : Int)) = fun j => ((gR xs (k + 1) j : Nat) : Int) := by
  funext j
  unfold gR
  by_cases hj : j = 32 - xs.length + k
  · subst hj
    rw [if_pos rfl, if_pos (by omega), show 32 - xs.length + k - (32 - xs.length) = k by omega, List.getD_eq_getElem?_getD, hc]; rfl
  · rw [if_neg hj]
    by_cases h1 : 32 - xs.length ≤ j ∧ j < 32 - xs.length + k
    · rw [if_pos h1, if_pos (by omega)]
    · rw [if_neg h1, if_neg (by omega)]
theorem gR_lt {xs : List Nat} (h : ∀ x ∈ xs, x < 256) (k j : Nat) : gR xs k j < 256 := by
  unfold gR
  split
  · rw [List.getD_eq_getElem?_getD]
    cases hq : xs[j - (32 - xs.length)]? with
    | none => simp
    | some c => exact h c (List.mem_of_getElem? hq)
  · omega
theorem fF_gR {xs : List Nat} (hn : xs.length ≤ 32) : fF (gR xs xs.length) 32 = fR xs xs.length := by
  funext j
  unfold fF gR fR
  by_cases h : j < xs.length
  · rw [if_pos (by omega), if_pos (by omega), if_pos (by omega), show 31 - j - (32 - xs.length) = xs.length - 1 - j by omega]
  · by_cases h2 : j < 32
    · rw [if_pos (by omega), if_neg (by omega), if_neg (by omega)]
    · rw [if_neg (by omega), if_neg (by omega)]
def RrRel (xs : List Nat) (w W0 : World) (i : Value) (wr : World) : Prop :=
  ∃ k : Nat, k ≤ xs.length ∧ i = .int .i64 k ∧ Blk wr (w.heap.size + 1) (arr32 fun j => ((gR xs k j : Nat) : Int)) 71 ∧ Below (w.heap.size + 1) W0 wr
set_option maxRecDepth 20000 in
set_option maxHeartbeats 2000000 in
theorem refRead_any (A : Option Addr) (xs : List Nat) (cap : Nat) (w : World) (hxs : SlAt w A (natC xs)) (hcap : xs.length ≤ cap) (hn : xs.length ≤ 32) (hb8 : ∀ x ∈ xs, x < 256) :
    Calls Try.prog 44 #[.slice A xs.length cap] w fun e w' => e = .returned (.tuple #[.agg (limbs (ob (fR xs xs.length))), .int .i64 0]) ∧ Below w.heap.size w w' := by
  have hfr := fun W => refFrom_any (gR xs xs.length) W (gR_lt hb8 xs.length)
  rw [fF_gR hn] at hfr
  have HFR := Lib.hid hfr
  have HX := Lib.hid hxs
  clear hxs hb8 hfr
  generalize hln : xs.length = n at *
  have hd : decide ((32 : Int) < ((n : Nat) : Int)) = false := decide_eq_false (by omega)
  go_enter Try.func44, Try.ntmps44
  go_wp2_with fail
  go_loopw [5] (fun i wr => RrRel xs w (w.alloc (.cells zeroW 34)) i wr) (fun i _ => n - (intOf i).toNat)
  case atStart =>
    refine ⟨0, Nat.zero_le _, rfl, ?_, ?_⟩
    · simp only [gR_zero]
      have h := heap_alloc_new (w.alloc (.cells zeroW 34)) (.cells (arr32 fun _ => 0) 71)
      rw [show (w.alloc (.cells zeroW 34)).heap.size = w.heap.size + 1 by simp] at h
      exact h
    · exact (Below.refl _ _).alloc (by simp) _
  case round =>
    obtain ⟨k, hk, rfl, hblk, hb⟩ := hrel
    have hsz := hb.size
    simp only [World.size_alloc] at hsz
    by_cases hlt : k < n
    · obtain ⟨c, hx⟩ : ∃ x, xs[k]? = some x := ⟨xs[k], by simp [hln, hlt]⟩
      obtain ⟨b, off, rfl, hbl, hcell⟩ := HX.out.cell (bytesC_at (i := k) (j := 0) (by simp [hx]; rfl) (by rfl))
      have hc0 : wr.cell? ⟨b, off + k, none⟩ = some (.int .u8 ((c : Nat) : Int)) := (hb.cell (p := ⟨b, off + k, none⟩) (by simp; omega)).trans (kept (World.below_alloc _ _) (hcell k _ (by have := bytesC_at (xs := xs.map fun x => ((x : Nat) : Int)) (i := k) (j := 0) (x := ((c : Nat) : Int)) (u := .int .u8 ((c : Nat) : Int)) (by simp [hx]) (by rfl); simpa [natC] using this)))
      obtain ⟨m, hm⟩ : ∃ m : Nat, m = 32 - xs.length + k := ⟨_, rfl⟩
      have hcs := (hblk.cell m).trans (arr32_at (fun j => ((gR xs k j : Nat) : Int)) (show m < 32 by omega))
      have hfs := hblk.free m
      have hbk := Blk.set hblk m (.int .u8 ((c : Nat) : Int))
      rw [arr32_set, hm, gR_step hx, ← hm] at hbk
      have hbw : Below (w.heap.size + 1) (w.alloc (.cells zeroW 34)) (wr.setCell ⟨w.heap.size + 1, m, none⟩ (.int .u8 ((c : Nat) : Int))) := hb.setCell (Nat.le_refl _) _
      rw [hln] at hm
      have hm32 : m < 32 := by omega
      subst hm
      have HK := Lib.hid hbk
      have HW := Lib.hid hbw
      clear hbk hbw hblk hb hcell
      go_wp2_with fail
      exact ⟨⟨k + 1, by omega, by go_num, HK.out, HW.out⟩, by simp [intOf]; omega⟩
    · obtain rfl : k = n := by omega
      have hc2 : ∀ o, wr.cell? ⟨w.heap.size, o, none⟩ = zeroW[o]? := fun o => by
        rw [hb.cell (p := ⟨w.heap.size, o, none⟩) (by simp), World.cell?_alloc_at _ _ _ _ rfl]
      have hf2 : ∀ o, wr.frozen? ⟨w.heap.size, o, none⟩ = false := fun o => by
        rw [hb.frozen (p := ⟨w.heap.size, o, none⟩) (by simp)]; exact World.frozen?_alloc_new w _ _ o
      have hu : Try.prog.underlying 71 = some (.array 32 5) := by kernel_rfl
      have hi : (Try.prog.info? 71).map (·.size) = some 32 := by kernel_rfl
      have HB := Lib.hid hb
      have H3 := Lib.hid hblk
      have HU := Lib.hid hu
      have HI := Lib.hid hi
      clear hb hblk hu hi
      go_wp2_with (first | (refine wpList_load_row rfl 71 (.tmp 4) (by with_reducible rfl) _ rfl _ _ (0, 0) _ H3.out HU.out rfl HI.out ?_))
      refine (HFR.out _).mono ?_
      rintro e w2 ⟨rfl, hb2⟩
      have hd2 : ∀ o, w2.cell? ⟨w.heap.size, o, none⟩ = zeroW[o]? := fun o => (hb2.cell (p := ⟨w.heap.size, o, none⟩) (by simp; omega)).trans (hc2 o)
      have hg2 : ∀ o, w2.frozen? ⟨w.heap.size, o, none⟩ = false := fun o => (hb2.frozen (p := ⟨w.heap.size, o, none⟩) (by simp; omega)).trans (hf2 o)
      have hbw : Below w.heap.size w w2 := ((World.below_alloc w _).trans (HB.out.mono (by omega))).trans (hb2.mono (by omega))
      clear hc2 hf2 hb2
      go_wp2_with fail
      refine bodyPost_ret (v := .tuple #[.agg (limbs (ob (fR xs k))), .int .i64 0]) (by simp [results, Try.results44, go_sem, *]) rfl ?_
      refine ⟨rfl, ?_⟩
      go_grown
end Go.Proofs.Ytknkepokkenokaa
