/- Walks: a word's bytes, and the word of bytes. -/
import Derived.Test.YtknkepokkenokaaTagB
import Derived.Test.YtknkepokkenokaaBytes
set_option linter.unusedVariables false
set_option linter.unusedSimpArgs false
namespace Go.Proofs.Ytknkepokkenokaa
open Go.RowKit

/-- Four numbers. -/
abbrev limbs (x : Nat → Nat) : Array Value := #[.int .u64 (x 0 : Nat), .int .u64 (x 1 : Nat), .int .u64 (x 2 : Nat), .int .u64 (x 3 : Nat)]
theorem limbs_at (x : Nat → Nat) {q : Nat} (h : q < 4) : (limbs x)[q]? = some (.int .u64 (x q : Nat)) := by
  rcases (by omega : q = 0 ∨ q = 1 ∨ q = 2 ∨ q = 3) with rfl | rfl | rfl | rfl <;> rfl
def wbs (x : Nat → Nat) : List Int := (List.range 32).map fun k => ((byteAt x (31 - k) : Nat) : Int)
theorem wbs_len (x : Nat → Nat) : (wbs x).length = 32 := by simp [wbs]
def WbRel (x : Nat → Nat) (w : World) (v i : Value) (wr : World) : Prop :=
  ∃ k : Nat, k ≤ 32 ∧ i = .int .i64 (31 - (k : Int)) ∧ wr.ownsRow (w.heap.size + 1) 5 1 v k (bytesC ((wbs x).take k)) ∧ Below (w.heap.size + 1) (w.alloc (.cells (limbs x) 34)) wr
set_option maxRecDepth 20000 in
set_option maxHeartbeats 1000000 in
theorem wordBytes_any (x : Nat → Nat) (w : World) (hx : ∀ q, x q < 2 ^ 64) :
    Calls Try.prog 41 #[.agg (limbs x)] w (Gives w (bytesC (wbs x)) 32) := by
  obtain ⟨i0, hi, hz0, hz1, hz2⟩ := info_parts tinfo_byte
  have HX := Lib.hid hx
  clear hx
  go_enter Try.func41, Try.ntmps41
  go_wp2_with (first | (at_make; refine wpList_make_own _ rfl _ _ 31 rfl (w.heap.size + 1) 5 i0 _ 1 under_bytes hi hz0 hz1 _ _ _ 32 rfl rfl (by omega) (by rw [hz2]; omega) (by simp only [maxLen]; omega) (by simp) ?_))
  intro w1 hownS hgrow
  have hb1 : Below (w.heap.size + 1) (w.alloc (.cells (limbs x) 34)) w1 := (Below.refl _ _).grown hgrow (by simp) (fun k hk => by cases hk)
  clear hgrow
  go_wp2_with fail
  go_loopw [3, 4] (fun v i wr => WbRel x w v i wr) (fun _ i _ => (intOf i + 1).toNat)
  case atStart => exact ⟨0, Nat.zero_le _, rfl, by simpa [bytesC] using hownS, hb1⟩
  case round =>
    obtain ⟨k, hk, rfl, hown, hb⟩ := hrel
    by_cases hlt : k < 32
    · obtain ⟨m, hm⟩ : ∃ m : Nat, m + k = 31 := ⟨31 - k, by omega⟩
      have hmi : (31 : Int) - (k : Int) = ((m : Nat) : Int) := by omega
      rw [hmi]
      have hc : wr.cell? ⟨w.heap.size, m / 8, none⟩ = some (.int .u64 (x (m / 8) : Nat)) := (hb.cell (p := ⟨w.heap.size, m / 8, none⟩) (by simp)).trans (newc _ _ _ _ (limbs_at x (by omega)))
      have hv : ((byteAt x m : Nat) : Int) = ((x (m / 8) : Nat) : Int) / 2 ^ (8 * (m % 8)) % 256 := by unfold byteAt; simp
      have hbt : (wbs x)[k]? = some (((x (m / 8) : Nat) : Int) / 2 ^ (8 * (m % 8)) % 256) := by
        rw [← hv]; simp [wbs, hlt, show 31 - k = m by omega]
      have HT := Lib.hid hbt
      have hsz := hb.size
      simp only [World.size_alloc] at hsz
      clear hv hbt
      go_wp2_with (first | (at_builtin; refine wpList_append_own _ rfl _ _ 31 rfl (w.heap.size + 1) 5 i0 _ 1 1 under_bytes hi hz0 hz1 hz2 rfl (by decide) _ _ _ rfl (hown.alloc _) ⟨wr.heap.size, 0, none⟩ 1 1 (byteC (((x (m / 8) : Nat) : Int) / 2 ^ (8 * (m % 8)) % 256)) rfl rfl (news_at _ _ _) (by simp [byteC, Value.oneCell']) (by simp only [maxLen]; omega) (by omega) (by first | omega | (simp; omega)) ?_))
      intro v3 w3 hown3 hg3 _
      have hb3 : Below (w.heap.size + 1) (w.alloc (.cells (limbs x) 34)) w3 := below_grown (hb.alloc (by first | omega | (simp; omega)) _) (hown.alloc _) hg3 (by first | omega | (simp; omega)) (Nat.le_refl _)
      have hown4 : w3.ownsRow (w.heap.size + 1) 5 1 v3 (k + 1) (bytesC ((wbs x).take (k + 1))) := by
        rw [bytesC_take HT.out]; exact hown3
      clear hown3 hg3 hc hsz hown hb
      go_wp2_with fail
      exact ⟨⟨k + 1, by omega, by go_num, hown4, hb3⟩, by first | (simp [intOf]; done) | (simp [intOf]; omega)⟩
    · obtain rfl : k = 32 := by omega
      rw [List.take_of_length_le (by simp [wbs])] at hown
      obtain ⟨A', c', rfl, hs, hc, hT⟩ := slice_of_owns hown
      have hbw : Below w.heap.size w wr := (World.below_alloc w _).trans (hb.mono (by omega))
      clear hown hb
      go_wp2_with fail
      go_ret
      exact ⟨_, _, rfl, hs, hc, hbw, hT.mono (by first | omega | (simp; done) | (simp; omega))⟩
end Go.Proofs.Ytknkepokkenokaa
