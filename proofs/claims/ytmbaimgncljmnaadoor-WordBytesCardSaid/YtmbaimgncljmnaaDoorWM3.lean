/- Merged texts: Pa0 PaD PaR PaW PaX Wr2 Rr1. No condition. -/
import Derived.Test.YtmbaimgncljmnaaDoorWM1
import Derived.Test.YtmbaimgncljmnaaDoorWM2
import Derived.Test.YtmbaimgncljmnaaDoorEyQ
import Derived.ScopeJumps
import Derived.WalkMore
import Derived.Lib.ConvBytes
set_option linter.unusedVariables false
set_option linter.unusedSimpArgs false
set_option maxRecDepth 100000
namespace Go.Proofs.YtmbaimgncljmnaaDoor
open Go.RowKit

section
theorem L_small {n : Nat} (h : n < 18446744073709551616) : L (BitVec.ofNat 256 n) 0 = n ∧ L (BitVec.ofNat 256 n) 1 = 0 ∧ L (BitVec.ofNat 256 n) 2 = 0 ∧ L (BitVec.ofNat 256 n) 3 = 0 := small_parts n h
/-- A letter's digit, or -1. -/
def hexI (c : Nat) : Int := if 48 ≤ c ∧ c ≤ 57 then (c : Int) - 48 else if 97 ≤ c ∧ c ≤ 102 then (c : Int) - 87 else -1
def hexL : List UInt8 := [48, 49, 50, 51, 52, 53, 54, 55, 56, 57, 97, 98, 99, 100, 101, 102]
theorem hexI_ge (c : Nat) : -1 ≤ hexI c := by
  unfold hexI
  repeat' split
  all_goals omega
theorem hexI_lt (c : Nat) : hexI c < 16 := by
  unfold hexI
  repeat' split
  all_goals omega
theorem index_hex (c : UInt8) : Lib.indexByte hexL c = hexI c.toNat := by
  have h : ∀ n : Fin 256, Lib.indexByte hexL (UInt8.ofNat n.val) = hexI n.val := by decide +kernel
  have := h ⟨c.toNat, c.toNat_lt⟩
  simpa using this
/-- The word of so many letters. -/
def psW (l : List UInt8) : Nat → BitVec 256
  | 0 => 0#256
  | k + 1 => psW l k * 16#256 + BitVec.ofNat 256 (hexI (l.getD k 0).toNat).toNat
def psOk (l : List UInt8) (k : Nat) : Prop := ∀ j, j < k → 0 ≤ hexI (l.getD j 0).toNat
theorem psOk_succ {l : List UInt8} {k : Nat} (h : psOk l k) (hd : 0 ≤ hexI (l.getD k 0).toNat) : psOk l (k + 1) := fun j hj => by
  rcases (by omega : j < k ∨ j = k) with h1 | rfl
  · exact h j h1
  · exact hd
def txW (x : BitVec 256) : ByteArray := txT (fun j => byteAt (lq x) (31 - j))
/-- What a text says. -/
def parseS (s : ByteArray) : BitVec 256 × Nat := match s.data.toList with
  | 48 :: 120 :: r => if r = [] then (0#256, 110) else if 64 < r.length then (0#256, 3) else
    if (∀ j, j < r.length → 0 ≤ hexI (r.getD j 0).toNat) then (if txW (psW r r.length) = s then (psW r r.length, 0) else (0#256, 110)) else (0#256, 110)
  | _ => (0#256, 110)
theorem parse_bad {s : ByteArray} (h : Lib.hasPrefix s.data.toList [48, 120] = false ∨ Lib.trimPrefix s.data.toList [48, 120] = []) : parseS s = (0#256, 110) := by
  unfold parseS
  split
  · rename_i r e
    rw [e] at h
    rcases h with h | h
    · simp [Lib.hasPrefix] at h
    · have : r = [] := by simpa [Lib.trimPrefix, Lib.hasPrefix] using h
      rw [if_pos this]
  · rfl
theorem parse_long {s : ByteArray} {r : List UInt8} (e : s.data.toList = 48 :: 120 :: r) (h : 64 < r.length) : parseS s = (0#256, 3) := by
  unfold parseS
  rw [e]
  simp only
  rw [if_neg (by rintro rfl; simp at h), if_pos h]
theorem parse_digit {s : ByteArray} {r : List UInt8} (e : s.data.toList = 48 :: 120 :: r) (h0 : r ≠ []) (h : r.length ≤ 64) {k : Nat} (hk : k < r.length) (hd : hexI (r.getD k 0).toNat < 0) : parseS s = (0#256, 110) := by
  unfold parseS
  rw [e]
  simp only
  rw [if_neg h0, if_neg (by omega), if_neg (fun hh => by have := hh k hk; omega)]
theorem parse_text {s : ByteArray} {r : List UInt8} (e : s.data.toList = 48 :: 120 :: r) (h0 : r ≠ []) (h : r.length ≤ 64) (hk : psOk r r.length) : parseS s = if txW (psW r r.length) = s then (psW r r.length, 0) else (0#256, 110) := by
  unfold parseS
  rw [e]
  simp only
  rw [if_neg h0, if_neg (by omega), if_pos (show ∀ j, j < r.length → 0 ≤ hexI (r.getD j 0).toNat from hk)]
theorem parse_cases (s : ByteArray) : (Lib.hasPrefix s.data.toList [48, 120] = false ∨ (Lib.hasPrefix s.data.toList [48, 120] = true ∧ Lib.trimPrefix s.data.toList [48, 120] = [])) ∨ ∃ r, s.data.toList = 48 :: 120 :: r ∧ r ≠ [] := by
  cases h : Lib.hasPrefix s.data.toList [48, 120]
  · exact .inl (.inl rfl)
  · have h' := h
    unfold Lib.hasPrefix at h
    rw [List.isPrefixOf_iff_prefix] at h
    obtain ⟨r, hr⟩ := h
    by_cases h0 : r = []
    · refine .inl (.inr ⟨rfl, ?_⟩)
      unfold Lib.trimPrefix
      rw [h', if_pos rfl, ← hr, h0]; rfl
    · exact .inr ⟨r, hr.symm, h0⟩
theorem parse_lt (s : ByteArray) : (parseS s).2 ≤ 110 := by
  unfold parseS
  split
  · split
    · decide
    · split
      · decide
      · split
        · split <;> simp
        · decide
  · decide
set_option maxRecDepth 20000 in
set_option maxHeartbeats 2000000 in
theorem refOfW (n : Nat) (hn : n < 18446744073709551616) (w : World)  : Calls Tryd.prog 35 #[.int .u64 n] w fun e w' => e = .returned (W (BitVec.ofNat 256 n)) ∧ Below w.heap.size w w' := by
  obtain ⟨o0, o1, o2, o3⟩ := L_small hn
  go_enter Tryd.func35, Tryd.ntmps35
  go_wp2_with fail
  refine bodyPost_ret (v := W (BitVec.ofNat 256 n)) (by simp [results, Tryd.results35, go_sem, *]) rfl ?_
  exact ⟨rfl, by go_grown⟩
set_option maxRecDepth 20000 in
set_option maxHeartbeats 2000000 in
theorem wordOfW (n : Nat) (hn : n < 18446744073709551616) (w : World)  : Calls Tryd.prog 20 #[.int .u64 n] w fun e w' => e = .returned (W (BitVec.ofNat 256 n)) ∧ Below w.heap.size w w' := by
  obtain ⟨o0, o1, o2, o3⟩ := L_small hn
  go_enter Tryd.func20, Tryd.ntmps20
  go_wp2_with fail
  refine bodyPost_ret (v := W (BitVec.ofNat 256 n)) (by simp [results, Tryd.results20, go_sem, *]) rfl ?_
  exact ⟨rfl, by go_grown⟩
theorem wordTextW (x : BitVec 256) (w : World) : Calls Tryd.prog 12 #[W x] w fun e w' => e = .returned (.string (txW x)) ∧ Below w.heap.size w w' := by
  rw [W_lq]; exact wordText_any (lq x) w (lq_lt x)
theorem refTextW (x : BitVec 256) (w : World) : Calls Tryd.prog 13 #[W x] w fun e w' => e = .returned (.string (txW x)) ∧ Below w.heap.size w w' := by
  rw [W_lq]; unfold txW txT; exact refText_any (lq x) w (lq_lt x)
end

section
noncomputable def dig_r0 (c : Nat) : AV := AV.int IntKind.i64 true 0
theorem dig_0 (c : Nat) (h : AllE [(strAt { data := #[48, 49, 50, 51, 52, 53, 54, 55, 56, 57, 97, 98, 99, 100, 101, 102] } 0 == (↑c : Int), true)]) : Is (evCall (mkEnv noRows []) 60 33 [.int .u8 false (c : Int)] ⟨[], [true], allW⟩ (fun v _ => v = dig_r0 c)) := ev_eq [(strAt { data := #[48, 49, 50, 51, 52, 53, 54, 55, 56, 57, 97, 98, 99, 100, 101, 102] } 0 == (↑c : Int), true)] (dig_r0 c) (by kernel_rfl) h
noncomputable def dig_r1 (c : Nat) : AV := AV.int IntKind.i64 true 1
theorem dig_1 (c : Nat) (h : AllE [(strAt { data := #[48, 49, 50, 51, 52, 53, 54, 55, 56, 57, 97, 98, 99, 100, 101, 102] } 0 == (↑c : Int), false), (strAt { data := #[48, 49, 50, 51, 52, 53, 54, 55, 56, 57, 97, 98, 99, 100, 101, 102] } (IntKind.wrap IntKind.i64 (0 + 1)) == (↑c : Int), true)]) : Is (evCall (mkEnv noRows []) 60 33 [.int .u8 false (c : Int)] ⟨[], [false, true], allW⟩ (fun v _ => v = dig_r1 c)) := ev_eq [(strAt { data := #[48, 49, 50, 51, 52, 53, 54, 55, 56, 57, 97, 98, 99, 100, 101, 102] } 0 == (↑c : Int), false), (strAt { data := #[48, 49, 50, 51, 52, 53, 54, 55, 56, 57, 97, 98, 99, 100, 101, 102] } (IntKind.wrap IntKind.i64 (0 + 1)) == (↑c : Int), true)] (dig_r1 c) (by kernel_rfl) h
noncomputable def dig_r2 (c : Nat) : AV := AV.int IntKind.i64 true 2
theorem dig_2 (c : Nat) (h : AllE [(strAt { data := #[48, 49, 50, 51, 52, 53, 54, 55, 56, 57, 97, 98, 99, 100, 101, 102] } 0 == (↑c : Int), false), (strAt { data := #[48, 49, 50, 51, 52, 53, 54, 55, 56, 57, 97, 98, 99, 100, 101, 102] } (IntKind.wrap IntKind.i64 (0 + 1)) == (↑c : Int), false), (strAt { data := #[48, 49, 50, 51, 52, 53, 54, 55, 56, 57, 97, 98, 99, 100, 101, 102] } (IntKind.wrap IntKind.i64 (IntKind.wrap IntKind.i64 (0 + 1) + 1)) == (↑c : Int), true)]) : Is (evCall (mkEnv noRows []) 60 33 [.int .u8 false (c : Int)] ⟨[], [false, false, true], allW⟩ (fun v _ => v = dig_r2 c)) := ev_eq [(strAt { data := #[48, 49, 50, 51, 52, 53, 54, 55, 56, 57, 97, 98, 99, 100, 101, 102] } 0 == (↑c : Int), false), (strAt { data := #[48, 49, 50, 51, 52, 53, 54, 55, 56, 57, 97, 98, 99, 100, 101, 102] } (IntKind.wrap IntKind.i64 (0 + 1)) == (↑c : Int), false), (strAt { data := #[48, 49, 50, 51, 52, 53, 54, 55, 56, 57, 97, 98, 99, 100, 101, 102] } (IntKind.wrap IntKind.i64 (IntKind.wrap IntKind.i64 (0 + 1) + 1)) == (↑c : Int), true)] (dig_r2 c) (by kernel_rfl) h
noncomputable def dig_r3 (c : Nat) : AV := AV.int IntKind.i64 true 3
theorem dig_3 (c : Nat) (h : AllE [(strAt { data := #[48, 49, 50, 51, 52, 53, 54, 55, 56, 57, 97, 98, 99, 100, 101, 102] } 0 == (↑c : Int), false), (strAt { data := #[48, 49, 50, 51, 52, 53, 54, 55, 56, 57, 97, 98, 99, 100, 101, 102] } (IntKind.wrap IntKind.i64 (0 + 1)) == (↑c : Int), false), (strAt { data := #[48, 49, 50, 51, 52, 53, 54, 55, 56, 57, 97, 98, 99, 100, 101, 102] } (IntKind.wrap IntKind.i64 (IntKind.wrap IntKind.i64 (0 + 1) + 1)) == (↑c : Int), false), (strAt { data := #[48, 49, 50, 51, 52, 53, 54, 55, 56, 57, 97, 98, 99, 100, 101, 102] } (IntKind.wrap IntKind.i64 (IntKind.wrap IntKind.i64 (IntKind.wrap IntKind.i64 (0 + 1) + 1) + 1)) == (↑c : Int), true)]) : Is (evCall (mkEnv noRows []) 60 33 [.int .u8 false (c : Int)] ⟨[], [false, false, false, true], allW⟩ (fun v _ => v = dig_r3 c)) := ev_eq [(strAt { data := #[48, 49, 50, 51, 52, 53, 54, 55, 56, 57, 97, 98, 99, 100, 101, 102] } 0 == (↑c : Int), false), (strAt { data := #[48, 49, 50, 51, 52, 53, 54, 55, 56, 57, 97, 98, 99, 100, 101, 102] } (IntKind.wrap IntKind.i64 (0 + 1)) == (↑c : Int), false), (strAt { data := #[48, 49, 50, 51, 52, 53, 54, 55, 56, 57, 97, 98, 99, 100, 101, 102] } (IntKind.wrap IntKind.i64 (IntKind.wrap IntKind.i64 (0 + 1) + 1)) == (↑c : Int), false), (strAt { data := #[48, 49, 50, 51, 52, 53, 54, 55, 56, 57, 97, 98, 99, 100, 101, 102] } (IntKind.wrap IntKind.i64 (IntKind.wrap IntKind.i64 (IntKind.wrap IntKind.i64 (0 + 1) + 1) + 1)) == (↑c : Int), true)] (dig_r3 c) (by kernel_rfl) h
noncomputable def dig_r4 (c : Nat) : AV := AV.int IntKind.i64 true 4
theorem dig_4 (c : Nat) (h : AllE [(strAt { data := #[48, 49, 50, 51, 52, 53, 54, 55, 56, 57, 97, 98, 99, 100, 101, 102] } 0 == (↑c : Int), false), (strAt { data := #[48, 49, 50, 51, 52, 53, 54, 55, 56, 57, 97, 98, 99, 100, 101, 102] } (IntKind.wrap IntKind.i64 (0 + 1)) == (↑c : Int), false), (strAt { data := #[48, 49, 50, 51, 52, 53, 54, 55, 56, 57, 97, 98, 99, 100, 101, 102] } (IntKind.wrap IntKind.i64 (IntKind.wrap IntKind.i64 (0 + 1) + 1)) == (↑c : Int), false), (strAt { data := #[48, 49, 50, 51, 52, 53, 54, 55, 56, 57, 97, 98, 99, 100, 101, 102] } (IntKind.wrap IntKind.i64 (IntKind.wrap IntKind.i64 (IntKind.wrap IntKind.i64 (0 + 1) + 1) + 1)) == (↑c : Int), false), (strAt { data := #[48, 49, 50, 51, 52, 53, 54, 55, 56, 57, 97, 98, 99, 100, 101, 102] } (IntKind.wrap IntKind.i64 (IntKind.wrap IntKind.i64 (IntKind.wrap IntKind.i64 (IntKind.wrap IntKind.i64 (0 + 1) + 1) + 1) + 1)) == (↑c : Int), true)]) : Is (evCall (mkEnv noRows []) 60 33 [.int .u8 false (c : Int)] ⟨[], [false, false, false, false, true], allW⟩ (fun v _ => v = dig_r4 c)) := ev_eq [(strAt { data := #[48, 49, 50, 51, 52, 53, 54, 55, 56, 57, 97, 98, 99, 100, 101, 102] } 0 == (↑c : Int), false), (strAt { data := #[48, 49, 50, 51, 52, 53, 54, 55, 56, 57, 97, 98, 99, 100, 101, 102] } (IntKind.wrap IntKind.i64 (0 + 1)) == (↑c : Int), false), (strAt { data := #[48, 49, 50, 51, 52, 53, 54, 55, 56, 57, 97, 98, 99, 100, 101, 102] } (IntKind.wrap IntKind.i64 (IntKind.wrap IntKind.i64 (0 + 1) + 1)) == (↑c : Int), false), (strAt { data := #[48, 49, 50, 51, 52, 53, 54, 55, 56, 57, 97, 98, 99, 100, 101, 102] } (IntKind.wrap IntKind.i64 (IntKind.wrap IntKind.i64 (IntKind.wrap IntKind.i64 (0 + 1) + 1) + 1)) == (↑c : Int), false), (strAt { data := #[48, 49, 50, 51, 52, 53, 54, 55, 56, 57, 97, 98, 99, 100, 101, 102] } (IntKind.wrap IntKind.i64 (IntKind.wrap IntKind.i64 (IntKind.wrap IntKind.i64 (IntKind.wrap IntKind.i64 (0 + 1) + 1) + 1) + 1)) == (↑c : Int), true)] (dig_r4 c) (by kernel_rfl) h
noncomputable def dig_r5 (c : Nat) : AV := AV.int IntKind.i64 true 5
theorem dig_5 (c : Nat) (h : AllE [(strAt { data := #[48, 49, 50, 51, 52, 53, 54, 55, 56, 57, 97, 98, 99, 100, 101, 102] } 0 == (↑c : Int), false), (strAt { data := #[48, 49, 50, 51, 52, 53, 54, 55, 56, 57, 97, 98, 99, 100, 101, 102] } (IntKind.wrap IntKind.i64 (0 + 1)) == (↑c : Int), false), (strAt { data := #[48, 49, 50, 51, 52, 53, 54, 55, 56, 57, 97, 98, 99, 100, 101, 102] } (IntKind.wrap IntKind.i64 (IntKind.wrap IntKind.i64 (0 + 1) + 1)) == (↑c : Int), false), (strAt { data := #[48, 49, 50, 51, 52, 53, 54, 55, 56, 57, 97, 98, 99, 100, 101, 102] } (IntKind.wrap IntKind.i64 (IntKind.wrap IntKind.i64 (IntKind.wrap IntKind.i64 (0 + 1) + 1) + 1)) == (↑c : Int), false), (strAt { data := #[48, 49, 50, 51, 52, 53, 54, 55, 56, 57, 97, 98, 99, 100, 101, 102] } (IntKind.wrap IntKind.i64 (IntKind.wrap IntKind.i64 (IntKind.wrap IntKind.i64 (IntKind.wrap IntKind.i64 (0 + 1) + 1) + 1) + 1)) == (↑c : Int), false), (strAt { data := #[48, 49, 50, 51, 52, 53, 54, 55, 56, 57, 97, 98, 99, 100, 101, 102] } (IntKind.wrap IntKind.i64 (IntKind.wrap IntKind.i64 (IntKind.wrap IntKind.i64 (IntKind.wrap IntKind.i64 (IntKind.wrap IntKind.i64 (0 + 1) + 1) + 1) + 1) + 1)) == (↑c : Int), true)]) : Is (evCall (mkEnv noRows []) 60 33 [.int .u8 false (c : Int)] ⟨[], [false, false, false, false, false, true], allW⟩ (fun v _ => v = dig_r5 c)) := ev_eq [(strAt { data := #[48, 49, 50, 51, 52, 53, 54, 55, 56, 57, 97, 98, 99, 100, 101, 102] } 0 == (↑c : Int), false), (strAt { data := #[48, 49, 50, 51, 52, 53, 54, 55, 56, 57, 97, 98, 99, 100, 101, 102] } (IntKind.wrap IntKind.i64 (0 + 1)) == (↑c : Int), false), (strAt { data := #[48, 49, 50, 51, 52, 53, 54, 55, 56, 57, 97, 98, 99, 100, 101, 102] } (IntKind.wrap IntKind.i64 (IntKind.wrap IntKind.i64 (0 + 1) + 1)) == (↑c : Int), false), (strAt { data := #[48, 49, 50, 51, 52, 53, 54, 55, 56, 57, 97, 98, 99, 100, 101, 102] } (IntKind.wrap IntKind.i64 (IntKind.wrap IntKind.i64 (IntKind.wrap IntKind.i64 (0 + 1) + 1) + 1)) == (↑c : Int), false), (strAt { data := #[48, 49, 50, 51, 52, 53, 54, 55, 56, 57, 97, 98, 99, 100, 101, 102] } (IntKind.wrap IntKind.i64 (IntKind.wrap IntKind.i64 (IntKind.wrap IntKind.i64 (IntKind.wrap IntKind.i64 (0 + 1) + 1) + 1) + 1)) == (↑c : Int), false), (strAt { data := #[48, 49, 50, 51, 52, 53, 54, 55, 56, 57, 97, 98, 99, 100, 101, 102] } (IntKind.wrap IntKind.i64 (IntKind.wrap IntKind.i64 (IntKind.wrap IntKind.i64 (IntKind.wrap IntKind.i64 (IntKind.wrap IntKind.i64 (0 + 1) + 1) + 1) + 1) + 1)) == (↑c : Int), true)] (dig_r5 c) (by kernel_rfl) h
noncomputable def dig_r6 (c : Nat) : AV := AV.int IntKind.i64 true 6
theorem dig_6 (c : Nat) (h : AllE [(strAt { data := #[48, 49, 50, 51, 52, 53, 54, 55, 56, 57, 97, 98, 99, 100, 101, 102] } 0 == (↑c : Int), false), (strAt { data := #[48, 49, 50, 51, 52, 53, 54, 55, 56, 57, 97, 98, 99, 100, 101, 102] } (IntKind.wrap IntKind.i64 (0 + 1)) == (↑c : Int), false), (strAt { data := #[48, 49, 50, 51, 52, 53, 54, 55, 56, 57, 97, 98, 99, 100, 101, 102] } (IntKind.wrap IntKind.i64 (IntKind.wrap IntKind.i64 (0 + 1) + 1)) == (↑c : Int), false), (strAt { data := #[48, 49, 50, 51, 52, 53, 54, 55, 56, 57, 97, 98, 99, 100, 101, 102] } (IntKind.wrap IntKind.i64 (IntKind.wrap IntKind.i64 (IntKind.wrap IntKind.i64 (0 + 1) + 1) + 1)) == (↑c : Int), false), (strAt { data := #[48, 49, 50, 51, 52, 53, 54, 55, 56, 57, 97, 98, 99, 100, 101, 102] } (IntKind.wrap IntKind.i64 (IntKind.wrap IntKind.i64 (IntKind.wrap IntKind.i64 (IntKind.wrap IntKind.i64 (0 + 1) + 1) + 1) + 1)) == (↑c : Int), false), (strAt { data := #[48, 49, 50, 51, 52, 53, 54, 55, 56, 57, 97, 98, 99, 100, 101, 102] } (IntKind.wrap IntKind.i64 (IntKind.wrap IntKind.i64 (IntKind.wrap IntKind.i64 (IntKind.wrap IntKind.i64 (IntKind.wrap IntKind.i64 (0 + 1) + 1) + 1) + 1) + 1)) == (↑c : Int), false), (strAt { data := #[48, 49, 50, 51, 52, 53, 54, 55, 56, 57, 97, 98, 99, 100, 101, 102] } (IntKind.wrap IntKind.i64 (IntKind.wrap IntKind.i64 (IntKind.wrap IntKind.i64 (IntKind.wrap IntKind.i64 (IntKind.wrap IntKind.i64 (IntKind.wrap IntKind.i64 (0 + 1) + 1) + 1) + 1) + 1) + 1)) == (↑c : Int), true)]) : Is (evCall (mkEnv noRows []) 60 33 [.int .u8 false (c : Int)] ⟨[], [false, false, false, false, false, false, true], allW⟩ (fun v _ => v = dig_r6 c)) := ev_eq [(strAt { data := #[48, 49, 50, 51, 52, 53, 54, 55, 56, 57, 97, 98, 99, 100, 101, 102] } 0 == (↑c : Int), false), (strAt { data := #[48, 49, 50, 51, 52, 53, 54, 55, 56, 57, 97, 98, 99, 100, 101, 102] } (IntKind.wrap IntKind.i64 (0 + 1)) == (↑c : Int), false), (strAt { data := #[48, 49, 50, 51, 52, 53, 54, 55, 56, 57, 97, 98, 99, 100, 101, 102] } (IntKind.wrap IntKind.i64 (IntKind.wrap IntKind.i64 (0 + 1) + 1)) == (↑c : Int), false), (strAt { data := #[48, 49, 50, 51, 52, 53, 54, 55, 56, 57, 97, 98, 99, 100, 101, 102] } (IntKind.wrap IntKind.i64 (IntKind.wrap IntKind.i64 (IntKind.wrap IntKind.i64 (0 + 1) + 1) + 1)) == (↑c : Int), false), (strAt { data := #[48, 49, 50, 51, 52, 53, 54, 55, 56, 57, 97, 98, 99, 100, 101, 102] } (IntKind.wrap IntKind.i64 (IntKind.wrap IntKind.i64 (IntKind.wrap IntKind.i64 (IntKind.wrap IntKind.i64 (0 + 1) + 1) + 1) + 1)) == (↑c : Int), false), (strAt { data := #[48, 49, 50, 51, 52, 53, 54, 55, 56, 57, 97, 98, 99, 100, 101, 102] } (IntKind.wrap IntKind.i64 (IntKind.wrap IntKind.i64 (IntKind.wrap IntKind.i64 (IntKind.wrap IntKind.i64 (IntKind.wrap IntKind.i64 (0 + 1) + 1) + 1) + 1) + 1)) == (↑c : Int), false), (strAt { data := #[48, 49, 50, 51, 52, 53, 54, 55, 56, 57, 97, 98, 99, 100, 101, 102] } (IntKind.wrap IntKind.i64 (IntKind.wrap IntKind.i64 (IntKind.wrap IntKind.i64 (IntKind.wrap IntKind.i64 (IntKind.wrap IntKind.i64 (IntKind.wrap IntKind.i64 (0 + 1) + 1) + 1) + 1) + 1) + 1)) == (↑c : Int), true)] (dig_r6 c) (by kernel_rfl) h
noncomputable def dig_r7 (c : Nat) : AV := AV.int IntKind.i64 true 7
theorem dig_7 (c : Nat) (h : AllE [(strAt { data := #[48, 49, 50, 51, 52, 53, 54, 55, 56, 57, 97, 98, 99, 100, 101, 102] } 0 == (↑c : Int), false), (strAt { data := #[48, 49, 50, 51, 52, 53, 54, 55, 56, 57, 97, 98, 99, 100, 101, 102] } (IntKind.wrap IntKind.i64 (0 + 1)) == (↑c : Int), false), (strAt { data := #[48, 49, 50, 51, 52, 53, 54, 55, 56, 57, 97, 98, 99, 100, 101, 102] } (IntKind.wrap IntKind.i64 (IntKind.wrap IntKind.i64 (0 + 1) + 1)) == (↑c : Int), false), (strAt { data := #[48, 49, 50, 51, 52, 53, 54, 55, 56, 57, 97, 98, 99, 100, 101, 102] } (IntKind.wrap IntKind.i64 (IntKind.wrap IntKind.i64 (IntKind.wrap IntKind.i64 (0 + 1) + 1) + 1)) == (↑c : Int), false), (strAt { data := #[48, 49, 50, 51, 52, 53, 54, 55, 56, 57, 97, 98, 99, 100, 101, 102] } (IntKind.wrap IntKind.i64 (IntKind.wrap IntKind.i64 (IntKind.wrap IntKind.i64 (IntKind.wrap IntKind.i64 (0 + 1) + 1) + 1) + 1)) == (↑c : Int), false), (strAt { data := #[48, 49, 50, 51, 52, 53, 54, 55, 56, 57, 97, 98, 99, 100, 101, 102] } (IntKind.wrap IntKind.i64 (IntKind.wrap IntKind.i64 (IntKind.wrap IntKind.i64 (IntKind.wrap IntKind.i64 (IntKind.wrap IntKind.i64 (0 + 1) + 1) + 1) + 1) + 1)) == (↑c : Int), false), (strAt { data := #[48, 49, 50, 51, 52, 53, 54, 55, 56, 57, 97, 98, 99, 100, 101, 102] } (IntKind.wrap IntKind.i64 (IntKind.wrap IntKind.i64 (IntKind.wrap IntKind.i64 (IntKind.wrap IntKind.i64 (IntKind.wrap IntKind.i64 (IntKind.wrap IntKind.i64 (0 + 1) + 1) + 1) + 1) + 1) + 1)) == (↑c : Int), false), (strAt { data := #[48, 49, 50, 51, 52, 53, 54, 55, 56, 57, 97, 98, 99, 100, 101, 102] } (IntKind.wrap IntKind.i64 (IntKind.wrap IntKind.i64 (IntKind.wrap IntKind.i64 (IntKind.wrap IntKind.i64 (IntKind.wrap IntKind.i64 (IntKind.wrap IntKind.i64 (IntKind.wrap IntKind.i64 (0 + 1) + 1) + 1) + 1) + 1) + 1) + 1)) == (↑c : Int), true)]) : Is (evCall (mkEnv noRows []) 60 33 [.int .u8 false (c : Int)] ⟨[], [false, false, false, false, false, false, false, true], allW⟩ (fun v _ => v = dig_r7 c)) := ev_eq [(strAt { data := #[48, 49, 50, 51, 52, 53, 54, 55, 56, 57, 97, 98, 99, 100, 101, 102] } 0 == (↑c : Int), false), (strAt { data := #[48, 49, 50, 51, 52, 53, 54, 55, 56, 57, 97, 98, 99, 100, 101, 102] } (IntKind.wrap IntKind.i64 (0 + 1)) == (↑c : Int), false), (strAt { data := #[48, 49, 50, 51, 52, 53, 54, 55, 56, 57, 97, 98, 99, 100, 101, 102] } (IntKind.wrap IntKind.i64 (IntKind.wrap IntKind.i64 (0 + 1) + 1)) == (↑c : Int), false), (strAt { data := #[48, 49, 50, 51, 52, 53, 54, 55, 56, 57, 97, 98, 99, 100, 101, 102] } (IntKind.wrap IntKind.i64 (IntKind.wrap IntKind.i64 (IntKind.wrap IntKind.i64 (0 + 1) + 1) + 1)) == (↑c : Int), false), (strAt { data := #[48, 49, 50, 51, 52, 53, 54, 55, 56, 57, 97, 98, 99, 100, 101, 102] } (IntKind.wrap IntKind.i64 (IntKind.wrap IntKind.i64 (IntKind.wrap IntKind.i64 (IntKind.wrap IntKind.i64 (0 + 1) + 1) + 1) + 1)) == (↑c : Int), false), (strAt { data := #[48, 49, 50, 51, 52, 53, 54, 55, 56, 57, 97, 98, 99, 100, 101, 102] } (IntKind.wrap IntKind.i64 (IntKind.wrap IntKind.i64 (IntKind.wrap IntKind.i64 (IntKind.wrap IntKind.i64 (IntKind.wrap IntKind.i64 (0 + 1) + 1) + 1) + 1) + 1)) == (↑c : Int), false), (strAt { data := #[48, 49, 50, 51, 52, 53, 54, 55, 56, 57, 97, 98, 99, 100, 101, 102] } (IntKind.wrap IntKind.i64 (IntKind.wrap IntKind.i64 (IntKind.wrap IntKind.i64 (IntKind.wrap IntKind.i64 (IntKind.wrap IntKind.i64 (IntKind.wrap IntKind.i64 (0 + 1) + 1) + 1) + 1) + 1) + 1)) == (↑c : Int), false), (strAt { data := #[48, 49, 50, 51, 52, 53, 54, 55, 56, 57, 97, 98, 99, 100, 101, 102] } (IntKind.wrap IntKind.i64 (IntKind.wrap IntKind.i64 (IntKind.wrap IntKind.i64 (IntKind.wrap IntKind.i64 (IntKind.wrap IntKind.i64 (IntKind.wrap IntKind.i64 (IntKind.wrap IntKind.i64 (0 + 1) + 1) + 1) + 1) + 1) + 1) + 1)) == (↑c : Int), true)] (dig_r7 c) (by kernel_rfl) h
noncomputable def dig_r8 (c : Nat) : AV := AV.int IntKind.i64 true 8
theorem dig_8 (c : Nat) (h : AllE [(strAt { data := #[48, 49, 50, 51, 52, 53, 54, 55, 56, 57, 97, 98, 99, 100, 101, 102] } 0 == (↑c : Int), false), (strAt { data := #[48, 49, 50, 51, 52, 53, 54, 55, 56, 57, 97, 98, 99, 100, 101, 102] } (IntKind.wrap IntKind.i64 (0 + 1)) == (↑c : Int), false), (strAt { data := #[48, 49, 50, 51, 52, 53, 54, 55, 56, 57, 97, 98, 99, 100, 101, 102] } (IntKind.wrap IntKind.i64 (IntKind.wrap IntKind.i64 (0 + 1) + 1)) == (↑c : Int), false), (strAt { data := #[48, 49, 50, 51, 52, 53, 54, 55, 56, 57, 97, 98, 99, 100, 101, 102] } (IntKind.wrap IntKind.i64 (IntKind.wrap IntKind.i64 (IntKind.wrap IntKind.i64 (0 + 1) + 1) + 1)) == (↑c : Int), false), (strAt { data := #[48, 49, 50, 51, 52, 53, 54, 55, 56, 57, 97, 98, 99, 100, 101, 102] } (IntKind.wrap IntKind.i64 (IntKind.wrap IntKind.i64 (IntKind.wrap IntKind.i64 (IntKind.wrap IntKind.i64 (0 + 1) + 1) + 1) + 1)) == (↑c : Int), false), (strAt { data := #[48, 49, 50, 51, 52, 53, 54, 55, 56, 57, 97, 98, 99, 100, 101, 102] } (IntKind.wrap IntKind.i64 (IntKind.wrap IntKind.i64 (IntKind.wrap IntKind.i64 (IntKind.wrap IntKind.i64 (IntKind.wrap IntKind.i64 (0 + 1) + 1) + 1) + 1) + 1)) == (↑c : Int), false), (strAt { data := #[48, 49, 50, 51, 52, 53, 54, 55, 56, 57, 97, 98, 99, 100, 101, 102] } (IntKind.wrap IntKind.i64 (IntKind.wrap IntKind.i64 (IntKind.wrap IntKind.i64 (IntKind.wrap IntKind.i64 (IntKind.wrap IntKind.i64 (IntKind.wrap IntKind.i64 (0 + 1) + 1) + 1) + 1) + 1) + 1)) == (↑c : Int), false), (strAt { data := #[48, 49, 50, 51, 52, 53, 54, 55, 56, 57, 97, 98, 99, 100, 101, 102] } (IntKind.wrap IntKind.i64 (IntKind.wrap IntKind.i64 (IntKind.wrap IntKind.i64 (IntKind.wrap IntKind.i64 (IntKind.wrap IntKind.i64 (IntKind.wrap IntKind.i64 (IntKind.wrap IntKind.i64 (0 + 1) + 1) + 1) + 1) + 1) + 1) + 1)) == (↑c : Int), false), (strAt { data := #[48, 49, 50, 51, 52, 53, 54, 55, 56, 57, 97, 98, 99, 100, 101, 102] } (IntKind.wrap IntKind.i64 (IntKind.wrap IntKind.i64 (IntKind.wrap IntKind.i64 (IntKind.wrap IntKind.i64 (IntKind.wrap IntKind.i64 (IntKind.wrap IntKind.i64 (IntKind.wrap IntKind.i64 (IntKind.wrap IntKind.i64 (0 + 1) + 1) + 1) + 1) + 1) + 1) + 1) + 1)) == (↑c : Int), true)]) : Is (evCall (mkEnv noRows []) 60 33 [.int .u8 false (c : Int)] ⟨[], [false, false, false, false, false, false, false, false, true], allW⟩ (fun v _ => v = dig_r8 c)) := ev_eq [(strAt { data := #[48, 49, 50, 51, 52, 53, 54, 55, 56, 57, 97, 98, 99, 100, 101, 102] } 0 == (↑c : Int), false), (strAt { data := #[48, 49, 50, 51, 52, 53, 54, 55, 56, 57, 97, 98, 99, 100, 101, 102] } (IntKind.wrap IntKind.i64 (0 + 1)) == (↑c : Int), false), (strAt { data := #[48, 49, 50, 51, 52, 53, 54, 55, 56, 57, 97, 98, 99, 100, 101, 102] } (IntKind.wrap IntKind.i64 (IntKind.wrap IntKind.i64 (0 + 1) + 1)) == (↑c : Int), false), (strAt { data := #[48, 49, 50, 51, 52, 53, 54, 55, 56, 57, 97, 98, 99, 100, 101, 102] } (IntKind.wrap IntKind.i64 (IntKind.wrap IntKind.i64 (IntKind.wrap IntKind.i64 (0 + 1) + 1) + 1)) == (↑c : Int), false), (strAt { data := #[48, 49, 50, 51, 52, 53, 54, 55, 56, 57, 97, 98, 99, 100, 101, 102] } (IntKind.wrap IntKind.i64 (IntKind.wrap IntKind.i64 (IntKind.wrap IntKind.i64 (IntKind.wrap IntKind.i64 (0 + 1) + 1) + 1) + 1)) == (↑c : Int), false), (strAt { data := #[48, 49, 50, 51, 52, 53, 54, 55, 56, 57, 97, 98, 99, 100, 101, 102] } (IntKind.wrap IntKind.i64 (IntKind.wrap IntKind.i64 (IntKind.wrap IntKind.i64 (IntKind.wrap IntKind.i64 (IntKind.wrap IntKind.i64 (0 + 1) + 1) + 1) + 1) + 1)) == (↑c : Int), false), (strAt { data := #[48, 49, 50, 51, 52, 53, 54, 55, 56, 57, 97, 98, 99, 100, 101, 102] } (IntKind.wrap IntKind.i64 (IntKind.wrap IntKind.i64 (IntKind.wrap IntKind.i64 (IntKind.wrap IntKind.i64 (IntKind.wrap IntKind.i64 (IntKind.wrap IntKind.i64 (0 + 1) + 1) + 1) + 1) + 1) + 1)) == (↑c : Int), false), (strAt { data := #[48, 49, 50, 51, 52, 53, 54, 55, 56, 57, 97, 98, 99, 100, 101, 102] } (IntKind.wrap IntKind.i64 (IntKind.wrap IntKind.i64 (IntKind.wrap IntKind.i64 (IntKind.wrap IntKind.i64 (IntKind.wrap IntKind.i64 (IntKind.wrap IntKind.i64 (IntKind.wrap IntKind.i64 (0 + 1) + 1) + 1) + 1) + 1) + 1) + 1)) == (↑c : Int), false), (strAt { data := #[48, 49, 50, 51, 52, 53, 54, 55, 56, 57, 97, 98, 99, 100, 101, 102] } (IntKind.wrap IntKind.i64 (IntKind.wrap IntKind.i64 (IntKind.wrap IntKind.i64 (IntKind.wrap IntKind.i64 (IntKind.wrap IntKind.i64 (IntKind.wrap IntKind.i64 (IntKind.wrap IntKind.i64 (IntKind.wrap IntKind.i64 (0 + 1) + 1) + 1) + 1) + 1) + 1) + 1) + 1)) == (↑c : Int), true)] (dig_r8 c) (by kernel_rfl) h
noncomputable def dig_r9 (c : Nat) : AV := AV.int IntKind.i64 true 9
theorem dig_9 (c : Nat) (h : AllE [(strAt { data := #[48, 49, 50, 51, 52, 53, 54, 55, 56, 57, 97, 98, 99, 100, 101, 102] } 0 == (↑c : Int), false), (strAt { data := #[48, 49, 50, 51, 52, 53, 54, 55, 56, 57, 97, 98, 99, 100, 101, 102] } (IntKind.wrap IntKind.i64 (0 + 1)) == (↑c : Int), false), (strAt { data := #[48, 49, 50, 51, 52, 53, 54, 55, 56, 57, 97, 98, 99, 100, 101, 102] } (IntKind.wrap IntKind.i64 (IntKind.wrap IntKind.i64 (0 + 1) + 1)) == (↑c : Int), false), (strAt { data := #[48, 49, 50, 51, 52, 53, 54, 55, 56, 57, 97, 98, 99, 100, 101, 102] } (IntKind.wrap IntKind.i64 (IntKind.wrap IntKind.i64 (IntKind.wrap IntKind.i64 (0 + 1) + 1) + 1)) == (↑c : Int), false), (strAt { data := #[48, 49, 50, 51, 52, 53, 54, 55, 56, 57, 97, 98, 99, 100, 101, 102] } (IntKind.wrap IntKind.i64 (IntKind.wrap IntKind.i64 (IntKind.wrap IntKind.i64 (IntKind.wrap IntKind.i64 (0 + 1) + 1) + 1) + 1)) == (↑c : Int), false), (strAt { data := #[48, 49, 50, 51, 52, 53, 54, 55, 56, 57, 97, 98, 99, 100, 101, 102] } (IntKind.wrap IntKind.i64 (IntKind.wrap IntKind.i64 (IntKind.wrap IntKind.i64 (IntKind.wrap IntKind.i64 (IntKind.wrap IntKind.i64 (0 + 1) + 1) + 1) + 1) + 1)) == (↑c : Int), false), (strAt { data := #[48, 49, 50, 51, 52, 53, 54, 55, 56, 57, 97, 98, 99, 100, 101, 102] } (IntKind.wrap IntKind.i64 (IntKind.wrap IntKind.i64 (IntKind.wrap IntKind.i64 (IntKind.wrap IntKind.i64 (IntKind.wrap IntKind.i64 (IntKind.wrap IntKind.i64 (0 + 1) + 1) + 1) + 1) + 1) + 1)) == (↑c : Int), false), (strAt { data := #[48, 49, 50, 51, 52, 53, 54, 55, 56, 57, 97, 98, 99, 100, 101, 102] } (IntKind.wrap IntKind.i64 (IntKind.wrap IntKind.i64 (IntKind.wrap IntKind.i64 (IntKind.wrap IntKind.i64 (IntKind.wrap IntKind.i64 (IntKind.wrap IntKind.i64 (IntKind.wrap IntKind.i64 (0 + 1) + 1) + 1) + 1) + 1) + 1) + 1)) == (↑c : Int), false), (strAt { data := #[48, 49, 50, 51, 52, 53, 54, 55, 56, 57, 97, 98, 99, 100, 101, 102] } (IntKind.wrap IntKind.i64 (IntKind.wrap IntKind.i64 (IntKind.wrap IntKind.i64 (IntKind.wrap IntKind.i64 (IntKind.wrap IntKind.i64 (IntKind.wrap IntKind.i64 (IntKind.wrap IntKind.i64 (IntKind.wrap IntKind.i64 (0 + 1) + 1) + 1) + 1) + 1) + 1) + 1) + 1)) == (↑c : Int), false), (strAt { data := #[48, 49, 50, 51, 52, 53, 54, 55, 56, 57, 97, 98, 99, 100, 101, 102] } (IntKind.wrap IntKind.i64 (IntKind.wrap IntKind.i64 (IntKind.wrap IntKind.i64 (IntKind.wrap IntKind.i64 (IntKind.wrap IntKind.i64 (IntKind.wrap IntKind.i64 (IntKind.wrap IntKind.i64 (IntKind.wrap IntKind.i64 (IntKind.wrap IntKind.i64 (0 + 1) + 1) + 1) + 1) + 1) + 1) + 1) + 1) + 1)) == (↑c : Int), true)]) : Is (evCall (mkEnv noRows []) 60 33 [.int .u8 false (c : Int)] ⟨[], [false, false, false, false, false, false, false, false, false, true], allW⟩ (fun v _ => v = dig_r9 c)) := ev_eq [(strAt { data := #[48, 49, 50, 51, 52, 53, 54, 55, 56, 57, 97, 98, 99, 100, 101, 102] } 0 == (↑c : Int), false), (strAt { data := #[48, 49, 50, 51, 52, 53, 54, 55, 56, 57, 97, 98, 99, 100, 101, 102] } (IntKind.wrap IntKind.i64 (0 + 1)) == (↑c : Int), false), (strAt { data := #[48, 49, 50, 51, 52, 53, 54, 55, 56, 57, 97, 98, 99, 100, 101, 102] } (IntKind.wrap IntKind.i64 (IntKind.wrap IntKind.i64 (0 + 1) + 1)) == (↑c : Int), false), (strAt { data := #[48, 49, 50, 51, 52, 53, 54, 55, 56, 57, 97, 98, 99, 100, 101, 102] } (IntKind.wrap IntKind.i64 (IntKind.wrap IntKind.i64 (IntKind.wrap IntKind.i64 (0 + 1) + 1) + 1)) == (↑c : Int), false), (strAt { data := #[48, 49, 50, 51, 52, 53, 54, 55, 56, 57, 97, 98, 99, 100, 101, 102] } (IntKind.wrap IntKind.i64 (IntKind.wrap IntKind.i64 (IntKind.wrap IntKind.i64 (IntKind.wrap IntKind.i64 (0 + 1) + 1) + 1) + 1)) == (↑c : Int), false), (strAt { data := #[48, 49, 50, 51, 52, 53, 54, 55, 56, 57, 97, 98, 99, 100, 101, 102] } (IntKind.wrap IntKind.i64 (IntKind.wrap IntKind.i64 (IntKind.wrap IntKind.i64 (IntKind.wrap IntKind.i64 (IntKind.wrap IntKind.i64 (0 + 1) + 1) + 1) + 1) + 1)) == (↑c : Int), false), (strAt { data := #[48, 49, 50, 51, 52, 53, 54, 55, 56, 57, 97, 98, 99, 100, 101, 102] } (IntKind.wrap IntKind.i64 (IntKind.wrap IntKind.i64 (IntKind.wrap IntKind.i64 (IntKind.wrap IntKind.i64 (IntKind.wrap IntKind.i64 (IntKind.wrap IntKind.i64 (0 + 1) + 1) + 1) + 1) + 1) + 1)) == (↑c : Int), false), (strAt { data := #[48, 49, 50, 51, 52, 53, 54, 55, 56, 57, 97, 98, 99, 100, 101, 102] } (IntKind.wrap IntKind.i64 (IntKind.wrap IntKind.i64 (IntKind.wrap IntKind.i64 (IntKind.wrap IntKind.i64 (IntKind.wrap IntKind.i64 (IntKind.wrap IntKind.i64 (IntKind.wrap IntKind.i64 (0 + 1) + 1) + 1) + 1) + 1) + 1) + 1)) == (↑c : Int), false), (strAt { data := #[48, 49, 50, 51, 52, 53, 54, 55, 56, 57, 97, 98, 99, 100, 101, 102] } (IntKind.wrap IntKind.i64 (IntKind.wrap IntKind.i64 (IntKind.wrap IntKind.i64 (IntKind.wrap IntKind.i64 (IntKind.wrap IntKind.i64 (IntKind.wrap IntKind.i64 (IntKind.wrap IntKind.i64 (IntKind.wrap IntKind.i64 (0 + 1) + 1) + 1) + 1) + 1) + 1) + 1) + 1)) == (↑c : Int), false), (strAt { data := #[48, 49, 50, 51, 52, 53, 54, 55, 56, 57, 97, 98, 99, 100, 101, 102] } (IntKind.wrap IntKind.i64 (IntKind.wrap IntKind.i64 (IntKind.wrap IntKind.i64 (IntKind.wrap IntKind.i64 (IntKind.wrap IntKind.i64 (IntKind.wrap IntKind.i64 (IntKind.wrap IntKind.i64 (IntKind.wrap IntKind.i64 (IntKind.wrap IntKind.i64 (0 + 1) + 1) + 1) + 1) + 1) + 1) + 1) + 1) + 1)) == (↑c : Int), true)] (dig_r9 c) (by kernel_rfl) h
noncomputable def dig_r10 (c : Nat) : AV := AV.int IntKind.i64 true 10
theorem dig_10 (c : Nat) (h : AllE [(strAt { data := #[48, 49, 50, 51, 52, 53, 54, 55, 56, 57, 97, 98, 99, 100, 101, 102] } 0 == (↑c : Int), false), (strAt { data := #[48, 49, 50, 51, 52, 53, 54, 55, 56, 57, 97, 98, 99, 100, 101, 102] } (IntKind.wrap IntKind.i64 (0 + 1)) == (↑c : Int), false), (strAt { data := #[48, 49, 50, 51, 52, 53, 54, 55, 56, 57, 97, 98, 99, 100, 101, 102] } (IntKind.wrap IntKind.i64 (IntKind.wrap IntKind.i64 (0 + 1) + 1)) == (↑c : Int), false), (strAt { data := #[48, 49, 50, 51, 52, 53, 54, 55, 56, 57, 97, 98, 99, 100, 101, 102] } (IntKind.wrap IntKind.i64 (IntKind.wrap IntKind.i64 (IntKind.wrap IntKind.i64 (0 + 1) + 1) + 1)) == (↑c : Int), false), (strAt { data := #[48, 49, 50, 51, 52, 53, 54, 55, 56, 57, 97, 98, 99, 100, 101, 102] } (IntKind.wrap IntKind.i64 (IntKind.wrap IntKind.i64 (IntKind.wrap IntKind.i64 (IntKind.wrap IntKind.i64 (0 + 1) + 1) + 1) + 1)) == (↑c : Int), false), (strAt { data := #[48, 49, 50, 51, 52, 53, 54, 55, 56, 57, 97, 98, 99, 100, 101, 102] } (IntKind.wrap IntKind.i64 (IntKind.wrap IntKind.i64 (IntKind.wrap IntKind.i64 (IntKind.wrap IntKind.i64 (IntKind.wrap IntKind.i64 (0 + 1) + 1) + 1) + 1) + 1)) == (↑c : Int), false), (strAt { data := #[48, 49, 50, 51, 52, 53, 54, 55, 56, 57, 97, 98, 99, 100, 101, 102] } (IntKind.wrap IntKind.i64 (IntKind.wrap IntKind.i64 (IntKind.wrap IntKind.i64 (IntKind.wrap IntKind.i64 (IntKind.wrap IntKind.i64 (IntKind.wrap IntKind.i64 (0 + 1) + 1) + 1) + 1) + 1) + 1)) == (↑c : Int), false), (strAt { data := #[48, 49, 50, 51, 52, 53, 54, 55, 56, 57, 97, 98, 99, 100, 101, 102] } (IntKind.wrap IntKind.i64 (IntKind.wrap IntKind.i64 (IntKind.wrap IntKind.i64 (IntKind.wrap IntKind.i64 (IntKind.wrap IntKind.i64 (IntKind.wrap IntKind.i64 (IntKind.wrap IntKind.i64 (0 + 1) + 1) + 1) + 1) + 1) + 1) + 1)) == (↑c : Int), false), (strAt { data := #[48, 49, 50, 51, 52, 53, 54, 55, 56, 57, 97, 98, 99, 100, 101, 102] } (IntKind.wrap IntKind.i64 (IntKind.wrap IntKind.i64 (IntKind.wrap IntKind.i64 (IntKind.wrap IntKind.i64 (IntKind.wrap IntKind.i64 (IntKind.wrap IntKind.i64 (IntKind.wrap IntKind.i64 (IntKind.wrap IntKind.i64 (0 + 1) + 1) + 1) + 1) + 1) + 1) + 1) + 1)) == (↑c : Int), false), (strAt { data := #[48, 49, 50, 51, 52, 53, 54, 55, 56, 57, 97, 98, 99, 100, 101, 102] } (IntKind.wrap IntKind.i64 (IntKind.wrap IntKind.i64 (IntKind.wrap IntKind.i64 (IntKind.wrap IntKind.i64 (IntKind.wrap IntKind.i64 (IntKind.wrap IntKind.i64 (IntKind.wrap IntKind.i64 (IntKind.wrap IntKind.i64 (IntKind.wrap IntKind.i64 (0 + 1) + 1) + 1) + 1) + 1) + 1) + 1) + 1) + 1)) == (↑c : Int), false), (strAt { data := #[48, 49, 50, 51, 52, 53, 54, 55, 56, 57, 97, 98, 99, 100, 101, 102] } (IntKind.wrap IntKind.i64 (IntKind.wrap IntKind.i64 (IntKind.wrap IntKind.i64 (IntKind.wrap IntKind.i64 (IntKind.wrap IntKind.i64 (IntKind.wrap IntKind.i64 (IntKind.wrap IntKind.i64 (IntKind.wrap IntKind.i64 (IntKind.wrap IntKind.i64 (IntKind.wrap IntKind.i64 (0 + 1) + 1) + 1) + 1) + 1) + 1) + 1) + 1) + 1) + 1)) == (↑c : Int), true)]) : Is (evCall (mkEnv noRows []) 60 33 [.int .u8 false (c : Int)] ⟨[], [false, false, false, false, false, false, false, false, false, false, true], allW⟩ (fun v _ => v = dig_r10 c)) := ev_eq [(strAt { data := #[48, 49, 50, 51, 52, 53, 54, 55, 56, 57, 97, 98, 99, 100, 101, 102] } 0 == (↑c : Int), false), (strAt { data := #[48, 49, 50, 51, 52, 53, 54, 55, 56, 57, 97, 98, 99, 100, 101, 102] } (IntKind.wrap IntKind.i64 (0 + 1)) == (↑c : Int), false), (strAt { data := #[48, 49, 50, 51, 52, 53, 54, 55, 56, 57, 97, 98, 99, 100, 101, 102] } (IntKind.wrap IntKind.i64 (IntKind.wrap IntKind.i64 (0 + 1) + 1)) == (↑c : Int), false), (strAt { data := #[48, 49, 50, 51, 52, 53, 54, 55, 56, 57, 97, 98, 99, 100, 101, 102] } (IntKind.wrap IntKind.i64 (IntKind.wrap IntKind.i64 (IntKind.wrap IntKind.i64 (0 + 1) + 1) + 1)) == (↑c : Int), false), (strAt { data := #[48, 49, 50, 51, 52, 53, 54, 55, 56, 57, 97, 98, 99, 100, 101, 102] } (IntKind.wrap IntKind.i64 (IntKind.wrap IntKind.i64 (IntKind.wrap IntKind.i64 (IntKind.wrap IntKind.i64 (0 + 1) + 1) + 1) + 1)) == (↑c : Int), false), (strAt { data := #[48, 49, 50, 51, 52, 53, 54, 55, 56, 57, 97, 98, 99, 100, 101, 102] } (IntKind.wrap IntKind.i64 (IntKind.wrap IntKind.i64 (IntKind.wrap IntKind.i64 (IntKind.wrap IntKind.i64 (IntKind.wrap IntKind.i64 (0 + 1) + 1) + 1) + 1) + 1)) == (↑c : Int), false), (strAt { data := #[48, 49, 50, 51, 52, 53, 54, 55, 56, 57, 97, 98, 99, 100, 101, 102] } (IntKind.wrap IntKind.i64 (IntKind.wrap IntKind.i64 (IntKind.wrap IntKind.i64 (IntKind.wrap IntKind.i64 (IntKind.wrap IntKind.i64 (IntKind.wrap IntKind.i64 (0 + 1) + 1) + 1) + 1) + 1) + 1)) == (↑c : Int), false), (strAt { data := #[48, 49, 50, 51, 52, 53, 54, 55, 56, 57, 97, 98, 99, 100, 101, 102] } (IntKind.wrap IntKind.i64 (IntKind.wrap IntKind.i64 (IntKind.wrap IntKind.i64 (IntKind.wrap IntKind.i64 (IntKind.wrap IntKind.i64 (IntKind.wrap IntKind.i64 (IntKind.wrap IntKind.i64 (0 + 1) + 1) + 1) + 1) + 1) + 1) + 1)) == (↑c : Int), false), (strAt { data := #[48, 49, 50, 51, 52, 53, 54, 55, 56, 57, 97, 98, 99, 100, 101, 102] } (IntKind.wrap IntKind.i64 (IntKind.wrap IntKind.i64 (IntKind.wrap IntKind.i64 (IntKind.wrap IntKind.i64 (IntKind.wrap IntKind.i64 (IntKind.wrap IntKind.i64 (IntKind.wrap IntKind.i64 (IntKind.wrap IntKind.i64 (0 + 1) + 1) + 1) + 1) + 1) + 1) + 1) + 1)) == (↑c : Int), false), (strAt { data := #[48, 49, 50, 51, 52, 53, 54, 55, 56, 57, 97, 98, 99, 100, 101, 102] } (IntKind.wrap IntKind.i64 (IntKind.wrap IntKind.i64 (IntKind.wrap IntKind.i64 (IntKind.wrap IntKind.i64 (IntKind.wrap IntKind.i64 (IntKind.wrap IntKind.i64 (IntKind.wrap IntKind.i64 (IntKind.wrap IntKind.i64 (IntKind.wrap IntKind.i64 (0 + 1) + 1) + 1) + 1) + 1) + 1) + 1) + 1) + 1)) == (↑c : Int), false), (strAt { data := #[48, 49, 50, 51, 52, 53, 54, 55, 56, 57, 97, 98, 99, 100, 101, 102] } (IntKind.wrap IntKind.i64 (IntKind.wrap IntKind.i64 (IntKind.wrap IntKind.i64 (IntKind.wrap IntKind.i64 (IntKind.wrap IntKind.i64 (IntKind.wrap IntKind.i64 (IntKind.wrap IntKind.i64 (IntKind.wrap IntKind.i64 (IntKind.wrap IntKind.i64 (IntKind.wrap IntKind.i64 (0 + 1) + 1) + 1) + 1) + 1) + 1) + 1) + 1) + 1) + 1)) == (↑c : Int), true)] (dig_r10 c) (by kernel_rfl) h
noncomputable def dig_r11 (c : Nat) : AV := AV.int IntKind.i64 true 11
theorem dig_11 (c : Nat) (h : AllE [(strAt { data := #[48, 49, 50, 51, 52, 53, 54, 55, 56, 57, 97, 98, 99, 100, 101, 102] } 0 == (↑c : Int), false), (strAt { data := #[48, 49, 50, 51, 52, 53, 54, 55, 56, 57, 97, 98, 99, 100, 101, 102] } (IntKind.wrap IntKind.i64 (0 + 1)) == (↑c : Int), false), (strAt { data := #[48, 49, 50, 51, 52, 53, 54, 55, 56, 57, 97, 98, 99, 100, 101, 102] } (IntKind.wrap IntKind.i64 (IntKind.wrap IntKind.i64 (0 + 1) + 1)) == (↑c : Int), false), (strAt { data := #[48, 49, 50, 51, 52, 53, 54, 55, 56, 57, 97, 98, 99, 100, 101, 102] } (IntKind.wrap IntKind.i64 (IntKind.wrap IntKind.i64 (IntKind.wrap IntKind.i64 (0 + 1) + 1) + 1)) == (↑c : Int), false), (strAt { data := #[48, 49, 50, 51, 52, 53, 54, 55, 56, 57, 97, 98, 99, 100, 101, 102] } (IntKind.wrap IntKind.i64 (IntKind.wrap IntKind.i64 (IntKind.wrap IntKind.i64 (IntKind.wrap IntKind.i64 (0 + 1) + 1) + 1) + 1)) == (↑c : Int), false), (strAt { data := #[48, 49, 50, 51, 52, 53, 54, 55, 56, 57, 97, 98, 99, 100, 101, 102] } (IntKind.wrap IntKind.i64 (IntKind.wrap IntKind.i64 (IntKind.wrap IntKind.i64 (IntKind.wrap IntKind.i64 (IntKind.wrap IntKind.i64 (0 + 1) + 1) + 1) + 1) + 1)) == (↑c : Int), false), (strAt { data := #[48, 49, 50, 51, 52, 53, 54, 55, 56, 57, 97, 98, 99, 100, 101, 102] } (IntKind.wrap IntKind.i64 (IntKind.wrap IntKind.i64 (IntKind.wrap IntKind.i64 (IntKind.wrap IntKind.i64 (IntKind.wrap IntKind.i64 (IntKind.wrap IntKind.i64 (0 + 1) + 1) + 1) + 1) + 1) + 1)) == (↑c : Int), false), (strAt { data := #[48, 49, 50, 51, 52, 53, 54, 55, 56, 57, 97, 98, 99, 100, 101, 102] } (IntKind.wrap IntKind.i64 (IntKind.wrap IntKind.i64 (IntKind.wrap IntKind.i64 (IntKind.wrap IntKind.i64 (IntKind.wrap IntKind.i64 (IntKind.wrap IntKind.i64 (IntKind.wrap IntKind.i64 (0 + 1) + 1) + 1) + 1) + 1) + 1) + 1)) == (↑c : Int), false), (strAt { data := #[48, 49, 50, 51, 52, 53, 54, 55, 56, 57, 97, 98, 99, 100, 101, 102] } (IntKind.wrap IntKind.i64 (IntKind.wrap IntKind.i64 (IntKind.wrap IntKind.i64 (IntKind.wrap IntKind.i64 (IntKind.wrap IntKind.i64 (IntKind.wrap IntKind.i64 (IntKind.wrap IntKind.i64 (IntKind.wrap IntKind.i64 (0 + 1) + 1) + 1) + 1) + 1) + 1) + 1) + 1)) == (↑c : Int), false), (strAt { data := #[48, 49, 50, 51, 52, 53, 54, 55, 56, 57, 97, 98, 99, 100, 101, 102] } (IntKind.wrap IntKind.i64 (IntKind.wrap IntKind.i64 (IntKind.wrap IntKind.i64 (IntKind.wrap IntKind.i64 (IntKind.wrap IntKind.i64 (IntKind.wrap IntKind.i64 (IntKind.wrap IntKind.i64 (IntKind.wrap IntKind.i64 (IntKind.wrap IntKind.i64 (0 + 1) + 1) + 1) + 1) + 1) + 1) + 1) + 1) + 1)) == (↑c : Int), false), (strAt { data := #[48, 49, 50, 51, 52, 53, 54, 55, 56, 57, 97, 98, 99, 100, 101, 102] } (IntKind.wrap IntKind.i64 (IntKind.wrap IntKind.i64 (IntKind.wrap IntKind.i64 (IntKind.wrap IntKind.i64 (IntKind.wrap IntKind.i64 (IntKind.wrap IntKind.i64 (IntKind.wrap IntKind.i64 (IntKind.wrap IntKind.i64 (IntKind.wrap IntKind.i64 (IntKind.wrap IntKind.i64 (0 + 1) + 1) + 1) + 1) + 1) + 1) + 1) + 1) + 1) + 1)) == (↑c : Int), false), (strAt { data := #[48, 49, 50, 51, 52, 53, 54, 55, 56, 57, 97, 98, 99, 100, 101, 102] } (IntKind.wrap IntKind.i64 (IntKind.wrap IntKind.i64 (IntKind.wrap IntKind.i64 (IntKind.wrap IntKind.i64 (IntKind.wrap IntKind.i64 (IntKind.wrap IntKind.i64 (IntKind.wrap IntKind.i64 (IntKind.wrap IntKind.i64 (IntKind.wrap IntKind.i64 (IntKind.wrap IntKind.i64 (IntKind.wrap IntKind.i64 (0 + 1) + 1) + 1) + 1) + 1) + 1) + 1) + 1) + 1) + 1) + 1)) == (↑c : Int), true)]) : Is (evCall (mkEnv noRows []) 60 33 [.int .u8 false (c : Int)] ⟨[], [false, false, false, false, false, false, false, false, false, false, false, true], allW⟩ (fun v _ => v = dig_r11 c)) := ev_eq [(strAt { data := #[48, 49, 50, 51, 52, 53, 54, 55, 56, 57, 97, 98, 99, 100, 101, 102] } 0 == (↑c : Int), false), (strAt { data := #[48, 49, 50, 51, 52, 53, 54, 55, 56, 57, 97, 98, 99, 100, 101, 102] } (IntKind.wrap IntKind.i64 (0 + 1)) == (↑c : Int), false), (strAt { data := #[48, 49, 50, 51, 52, 53, 54, 55, 56, 57, 97, 98, 99, 100, 101, 102] } (IntKind.wrap IntKind.i64 (IntKind.wrap IntKind.i64 (0 + 1) + 1)) == (↑c : Int), false), (strAt { data := #[48, 49, 50, 51, 52, 53, 54, 55, 56, 57, 97, 98, 99, 100, 101, 102] } (IntKind.wrap IntKind.i64 (IntKind.wrap IntKind.i64 (IntKind.wrap IntKind.i64 (0 + 1) + 1) + 1)) == (↑c : Int), false), (strAt { data := #[48, 49, 50, 51, 52, 53, 54, 55, 56, 57, 97, 98, 99, 100, 101, 102] } (IntKind.wrap IntKind.i64 (IntKind.wrap IntKind.i64 (IntKind.wrap IntKind.i64 (IntKind.wrap IntKind.i64 (0 + 1) + 1) + 1) + 1)) == (↑c : Int), false), (strAt { data := #[48, 49, 50, 51, 52, 53, 54, 55, 56, 57, 97, 98, 99, 100, 101, 102] } (IntKind.wrap IntKind.i64 (IntKind.wrap IntKind.i64 (IntKind.wrap IntKind.i64 (IntKind.wrap IntKind.i64 (IntKind.wrap IntKind.i64 (0 + 1) + 1) + 1) + 1) + 1)) == (↑c : Int), false), (strAt { data := #[48, 49, 50, 51, 52, 53, 54, 55, 56, 57, 97, 98, 99, 100, 101, 102] } (IntKind.wrap IntKind.i64 (IntKind.wrap IntKind.i64 (IntKind.wrap IntKind.i64 (IntKind.wrap IntKind.i64 (IntKind.wrap IntKind.i64 (IntKind.wrap IntKind.i64 (0 + 1) + 1) + 1) + 1) + 1) + 1)) == (↑c : Int), false), (strAt { data := #[48, 49, 50, 51, 52, 53, 54, 55, 56, 57, 97, 98, 99, 100, 101, 102] } (IntKind.wrap IntKind.i64 (IntKind.wrap IntKind.i64 (IntKind.wrap IntKind.i64 (IntKind.wrap IntKind.i64 (IntKind.wrap IntKind.i64 (IntKind.wrap IntKind.i64 (IntKind.wrap IntKind.i64 (0 + 1) + 1) + 1) + 1) + 1) + 1) + 1)) == (↑c : Int), false), (strAt { data := #[48, 49, 50, 51, 52, 53, 54, 55, 56, 57, 97, 98, 99, 100, 101, 102] } (IntKind.wrap IntKind.i64 (IntKind.wrap IntKind.i64 (IntKind.wrap IntKind.i64 (IntKind.wrap IntKind.i64 (IntKind.wrap IntKind.i64 (IntKind.wrap IntKind.i64 (IntKind.wrap IntKind.i64 (IntKind.wrap IntKind.i64 (0 + 1) + 1) + 1) + 1) + 1) + 1) + 1) + 1)) == (↑c : Int), false), (strAt { data := #[48, 49, 50, 51, 52, 53, 54, 55, 56, 57, 97, 98, 99, 100, 101, 102] } (IntKind.wrap IntKind.i64 (IntKind.wrap IntKind.i64 (IntKind.wrap IntKind.i64 (IntKind.wrap IntKind.i64 (IntKind.wrap IntKind.i64 (IntKind.wrap IntKind.i64 (IntKind.wrap IntKind.i64 (IntKind.wrap IntKind.i64 (IntKind.wrap IntKind.i64 (0 + 1) + 1) + 1) + 1) + 1) + 1) + 1) + 1) + 1)) == (↑c : Int), false), (strAt { data := #[48, 49, 50, 51, 52, 53, 54, 55, 56, 57, 97, 98, 99, 100, 101, 102] } (IntKind.wrap IntKind.i64 (IntKind.wrap IntKind.i64 (IntKind.wrap IntKind.i64 (IntKind.wrap IntKind.i64 (IntKind.wrap IntKind.i64 (IntKind.wrap IntKind.i64 (IntKind.wrap IntKind.i64 (IntKind.wrap IntKind.i64 (IntKind.wrap IntKind.i64 (IntKind.wrap IntKind.i64 (0 + 1) + 1) + 1) + 1) + 1) + 1) + 1) + 1) + 1) + 1)) == (↑c : Int), false), (strAt { data := #[48, 49, 50, 51, 52, 53, 54, 55, 56, 57, 97, 98, 99, 100, 101, 102] } (IntKind.wrap IntKind.i64 (IntKind.wrap IntKind.i64 (IntKind.wrap IntKind.i64 (IntKind.wrap IntKind.i64 (IntKind.wrap IntKind.i64 (IntKind.wrap IntKind.i64 (IntKind.wrap IntKind.i64 (IntKind.wrap IntKind.i64 (IntKind.wrap IntKind.i64 (IntKind.wrap IntKind.i64 (IntKind.wrap IntKind.i64 (0 + 1) + 1) + 1) + 1) + 1) + 1) + 1) + 1) + 1) + 1) + 1)) == (↑c : Int), true)] (dig_r11 c) (by kernel_rfl) h
noncomputable def dig_r12 (c : Nat) : AV := AV.int IntKind.i64 true 12
theorem dig_12 (c : Nat) (h : AllE [(strAt { data := #[48, 49, 50, 51, 52, 53, 54, 55, 56, 57, 97, 98, 99, 100, 101, 102] } 0 == (↑c : Int), false), (strAt { data := #[48, 49, 50, 51, 52, 53, 54, 55, 56, 57, 97, 98, 99, 100, 101, 102] } (IntKind.wrap IntKind.i64 (0 + 1)) == (↑c : Int), false), (strAt { data := #[48, 49, 50, 51, 52, 53, 54, 55, 56, 57, 97, 98, 99, 100, 101, 102] } (IntKind.wrap IntKind.i64 (IntKind.wrap IntKind.i64 (0 + 1) + 1)) == (↑c : Int), false), (strAt { data := #[48, 49, 50, 51, 52, 53, 54, 55, 56, 57, 97, 98, 99, 100, 101, 102] } (IntKind.wrap IntKind.i64 (IntKind.wrap IntKind.i64 (IntKind.wrap IntKind.i64 (0 + 1) + 1) + 1)) == (↑c : Int), false), (strAt { data := #[48, 49, 50, 51, 52, 53, 54, 55, 56, 57, 97, 98, 99, 100, 101, 102] } (IntKind.wrap IntKind.i64 (IntKind.wrap IntKind.i64 (IntKind.wrap IntKind.i64 (IntKind.wrap IntKind.i64 (0 + 1) + 1) + 1) + 1)) == (↑c : Int), false), (strAt { data := #[48, 49, 50, 51, 52, 53, 54, 55, 56, 57, 97, 98, 99, 100, 101, 102] } (IntKind.wrap IntKind.i64 (IntKind.wrap IntKind.i64 (IntKind.wrap IntKind.i64 (IntKind.wrap IntKind.i64 (IntKind.wrap IntKind.i64 (0 + 1) + 1) + 1) + 1) + 1)) == (↑c : Int), false), (strAt { data := #[48, 49, 50, 51, 52, 53, 54, 55, 56, 57, 97, 98, 99, 100, 101, 102] } (IntKind.wrap IntKind.i64 (IntKind.wrap IntKind.i64 (IntKind.wrap IntKind.i64 (IntKind.wrap IntKind.i64 (IntKind.wrap IntKind.i64 (IntKind.wrap IntKind.i64 (0 + 1) + 1) + 1) + 1) + 1) + 1)) == (↑c : Int), false), (strAt { data := #[48, 49, 50, 51, 52, 53, 54, 55, 56, 57, 97, 98, 99, 100, 101, 102] } (IntKind.wrap IntKind.i64 (IntKind.wrap IntKind.i64 (IntKind.wrap IntKind.i64 (IntKind.wrap IntKind.i64 (IntKind.wrap IntKind.i64 (IntKind.wrap IntKind.i64 (IntKind.wrap IntKind.i64 (0 + 1) + 1) + 1) + 1) + 1) + 1) + 1)) == (↑c : Int), false), (strAt { data := #[48, 49, 50, 51, 52, 53, 54, 55, 56, 57, 97, 98, 99, 100, 101, 102] } (IntKind.wrap IntKind.i64 (IntKind.wrap IntKind.i64 (IntKind.wrap IntKind.i64 (IntKind.wrap IntKind.i64 (IntKind.wrap IntKind.i64 (IntKind.wrap IntKind.i64 (IntKind.wrap IntKind.i64 (IntKind.wrap IntKind.i64 (0 + 1) + 1) + 1) + 1) + 1) + 1) + 1) + 1)) == (↑c : Int), false), (strAt { data := #[48, 49, 50, 51, 52, 53, 54, 55, 56, 57, 97, 98, 99, 100, 101, 102] } (IntKind.wrap IntKind.i64 (IntKind.wrap IntKind.i64 (IntKind.wrap IntKind.i64 (IntKind.wrap IntKind.i64 (IntKind.wrap IntKind.i64 (IntKind.wrap IntKind.i64 (IntKind.wrap IntKind.i64 (IntKind.wrap IntKind.i64 (IntKind.wrap IntKind.i64 (0 + 1) + 1) + 1) + 1) + 1) + 1) + 1) + 1) + 1)) == (↑c : Int), false), (strAt { data := #[48, 49, 50, 51, 52, 53, 54, 55, 56, 57, 97, 98, 99, 100, 101, 102] } (IntKind.wrap IntKind.i64 (IntKind.wrap IntKind.i64 (IntKind.wrap IntKind.i64 (IntKind.wrap IntKind.i64 (IntKind.wrap IntKind.i64 (IntKind.wrap IntKind.i64 (IntKind.wrap IntKind.i64 (IntKind.wrap IntKind.i64 (IntKind.wrap IntKind.i64 (IntKind.wrap IntKind.i64 (0 + 1) + 1) + 1) + 1) + 1) + 1) + 1) + 1) + 1) + 1)) == (↑c : Int), false), (strAt { data := #[48, 49, 50, 51, 52, 53, 54, 55, 56, 57, 97, 98, 99, 100, 101, 102] } (IntKind.wrap IntKind.i64 (IntKind.wrap IntKind.i64 (IntKind.wrap IntKind.i64 (IntKind.wrap IntKind.i64 (IntKind.wrap IntKind.i64 (IntKind.wrap IntKind.i64 (IntKind.wrap IntKind.i64 (IntKind.wrap IntKind.i64 (IntKind.wrap IntKind.i64 (IntKind.wrap IntKind.i64 (IntKind.wrap IntKind.i64 (0 + 1) + 1) + 1) + 1) + 1) + 1) + 1) + 1) + 1) + 1) + 1)) == (↑c : Int), false), (strAt { data := #[48, 49, 50, 51, 52, 53, 54, 55, 56, 57, 97, 98, 99, 100, 101, 102] } (IntKind.wrap IntKind.i64 (IntKind.wrap IntKind.i64 (IntKind.wrap IntKind.i64 (IntKind.wrap IntKind.i64 (IntKind.wrap IntKind.i64 (IntKind.wrap IntKind.i64 (IntKind.wrap IntKind.i64 (IntKind.wrap IntKind.i64 (IntKind.wrap IntKind.i64 (IntKind.wrap IntKind.i64 (IntKind.wrap IntKind.i64 (IntKind.wrap IntKind.i64 (0 + 1) + 1) + 1) + 1) + 1) + 1) + 1) + 1) + 1) + 1) + 1) + 1)) == (↑c : Int), true)]) : Is (evCall (mkEnv noRows []) 60 33 [.int .u8 false (c : Int)] ⟨[], [false, false, false, false, false, false, false, false, false, false, false, false, true], allW⟩ (fun v _ => v = dig_r12 c)) := ev_eq [(strAt { data := #[48, 49, 50, 51, 52, 53, 54, 55, 56, 57, 97, 98, 99, 100, 101, 102] } 0 == (↑c : Int), false), (strAt { data := #[48, 49, 50, 51, 52, 53, 54, 55, 56, 57, 97, 98, 99, 100, 101, 102] } (IntKind.wrap IntKind.i64 (0 + 1)) == (↑c : Int), false), (strAt { data := #[48, 49, 50, 51, 52, 53, 54, 55, 56, 57, 97, 98, 99, 100, 101, 102] } (IntKind.wrap IntKind.i64 (IntKind.wrap IntKind.i64 (0 + 1) + 1)) == (↑c : Int), false), (strAt { data := #[48, 49, 50, 51, 52, 53, 54, 55, 56, 57, 97, 98, 99, 100, 101, 102] } (IntKind.wrap IntKind.i64 (IntKind.wrap IntKind.i64 (IntKind.wrap IntKind.i64 (0 + 1) + 1) + 1)) == (↑c : Int), false), (strAt { data := #[48, 49, 50, 51, 52, 53, 54, 55, 56, 57, 97, 98, 99, 100, 101, 102] } (IntKind.wrap IntKind.i64 (IntKind.wrap IntKind.i64 (IntKind.wrap IntKind.i64 (IntKind.wrap IntKind.i64 (0 + 1) + 1) + 1) + 1)) == (↑c : Int), false), (strAt { data := #[48, 49, 50, 51, 52, 53, 54, 55, 56, 57, 97, 98, 99, 100, 101, 102] } (IntKind.wrap IntKind.i64 (IntKind.wrap IntKind.i64 (IntKind.wrap IntKind.i64 (IntKind.wrap IntKind.i64 (IntKind.wrap IntKind.i64 (0 + 1) + 1) + 1) + 1) + 1)) == (↑c : Int), false), (strAt { data := #[48, 49, 50, 51, 52, 53, 54, 55, 56, 57, 97, 98, 99, 100, 101, 102] } (IntKind.wrap IntKind.i64 (IntKind.wrap IntKind.i64 (IntKind.wrap IntKind.i64 (IntKind.wrap IntKind.i64 (IntKind.wrap IntKind.i64 (IntKind.wrap IntKind.i64 (0 + 1) + 1) + 1) + 1) + 1) + 1)) == (↑c : Int), false), (strAt { data := #[48, 49, 50, 51, 52, 53, 54, 55, 56, 57, 97, 98, 99, 100, 101, 102] } (IntKind.wrap IntKind.i64 (IntKind.wrap IntKind.i64 (IntKind.wrap IntKind.i64 (IntKind.wrap IntKind.i64 (IntKind.wrap IntKind.i64 (IntKind.wrap IntKind.i64 (IntKind.wrap IntKind.i64 (0 + 1) + 1) + 1) + 1) + 1) + 1) + 1)) == (↑c : Int), false), (strAt { data := #[48, 49, 50, 51, 52, 53, 54, 55, 56, 57, 97, 98, 99, 100, 101, 102] } (IntKind.wrap IntKind.i64 (IntKind.wrap IntKind.i64 (IntKind.wrap IntKind.i64 (IntKind.wrap IntKind.i64 (IntKind.wrap IntKind.i64 (IntKind.wrap IntKind.i64 (IntKind.wrap IntKind.i64 (IntKind.wrap IntKind.i64 (0 + 1) + 1) + 1) + 1) + 1) + 1) + 1) + 1)) == (↑c : Int), false), (strAt { data := #[48, 49, 50, 51, 52, 53, 54, 55, 56, 57, 97, 98, 99, 100, 101, 102] } (IntKind.wrap IntKind.i64 (IntKind.wrap IntKind.i64 (IntKind.wrap IntKind.i64 (IntKind.wrap IntKind.i64 (IntKind.wrap IntKind.i64 (IntKind.wrap IntKind.i64 (IntKind.wrap IntKind.i64 (IntKind.wrap IntKind.i64 (IntKind.wrap IntKind.i64 (0 + 1) + 1) + 1) + 1) + 1) + 1) + 1) + 1) + 1)) == (↑c : Int), false), (strAt { data := #[48, 49, 50, 51, 52, 53, 54, 55, 56, 57, 97, 98, 99, 100, 101, 102] } (IntKind.wrap IntKind.i64 (IntKind.wrap IntKind.i64 (IntKind.wrap IntKind.i64 (IntKind.wrap IntKind.i64 (IntKind.wrap IntKind.i64 (IntKind.wrap IntKind.i64 (IntKind.wrap IntKind.i64 (IntKind.wrap IntKind.i64 (IntKind.wrap IntKind.i64 (IntKind.wrap IntKind.i64 (0 + 1) + 1) + 1) + 1) + 1) + 1) + 1) + 1) + 1) + 1)) == (↑c : Int), false), (strAt { data := #[48, 49, 50, 51, 52, 53, 54, 55, 56, 57, 97, 98, 99, 100, 101, 102] } (IntKind.wrap IntKind.i64 (IntKind.wrap IntKind.i64 (IntKind.wrap IntKind.i64 (IntKind.wrap IntKind.i64 (IntKind.wrap IntKind.i64 (IntKind.wrap IntKind.i64 (IntKind.wrap IntKind.i64 (IntKind.wrap IntKind.i64 (IntKind.wrap IntKind.i64 (IntKind.wrap IntKind.i64 (IntKind.wrap IntKind.i64 (0 + 1) + 1) + 1) + 1) + 1) + 1) + 1) + 1) + 1) + 1) + 1)) == (↑c : Int), false), (strAt { data := #[48, 49, 50, 51, 52, 53, 54, 55, 56, 57, 97, 98, 99, 100, 101, 102] } (IntKind.wrap IntKind.i64 (IntKind.wrap IntKind.i64 (IntKind.wrap IntKind.i64 (IntKind.wrap IntKind.i64 (IntKind.wrap IntKind.i64 (IntKind.wrap IntKind.i64 (IntKind.wrap IntKind.i64 (IntKind.wrap IntKind.i64 (IntKind.wrap IntKind.i64 (IntKind.wrap IntKind.i64 (IntKind.wrap IntKind.i64 (IntKind.wrap IntKind.i64 (0 + 1) + 1) + 1) + 1) + 1) + 1) + 1) + 1) + 1) + 1) + 1) + 1)) == (↑c : Int), true)] (dig_r12 c) (by kernel_rfl) h
noncomputable def dig_r13 (c : Nat) : AV := AV.int IntKind.i64 true 13
theorem dig_13 (c : Nat) (h : AllE [(strAt { data := #[48, 49, 50, 51, 52, 53, 54, 55, 56, 57, 97, 98, 99, 100, 101, 102] } 0 == (↑c : Int), false), (strAt { data := #[48, 49, 50, 51, 52, 53, 54, 55, 56, 57, 97, 98, 99, 100, 101, 102] } (IntKind.wrap IntKind.i64 (0 + 1)) == (↑c : Int), false), (strAt { data := #[48, 49, 50, 51, 52, 53, 54, 55, 56, 57, 97, 98, 99, 100, 101, 102] } (IntKind.wrap IntKind.i64 (IntKind.wrap IntKind.i64 (0 + 1) + 1)) == (↑c : Int), false), (strAt { data := #[48, 49, 50, 51, 52, 53, 54, 55, 56, 57, 97, 98, 99, 100, 101, 102] } (IntKind.wrap IntKind.i64 (IntKind.wrap IntKind.i64 (IntKind.wrap IntKind.i64 (0 + 1) + 1) + 1)) == (↑c : Int), false), (strAt { data := #[48, 49, 50, 51, 52, 53, 54, 55, 56, 57, 97, 98, 99, 100, 101, 102] } (IntKind.wrap IntKind.i64 (IntKind.wrap IntKind.i64 (IntKind.wrap IntKind.i64 (IntKind.wrap IntKind.i64 (0 + 1) + 1) + 1) + 1)) == (↑c : Int), false), (strAt { data := #[48, 49, 50, 51, 52, 53, 54, 55, 56, 57, 97, 98, 99, 100, 101, 102] } (IntKind.wrap IntKind.i64 (IntKind.wrap IntKind.i64 (IntKind.wrap IntKind.i64 (IntKind.wrap IntKind.i64 (IntKind.wrap IntKind.i64 (0 + 1) + 1) + 1) + 1) + 1)) == (↑c : Int), false), (strAt { data := #[48, 49, 50, 51, 52, 53, 54, 55, 56, 57, 97, 98, 99, 100, 101, 102] } (IntKind.wrap IntKind.i64 (IntKind.wrap IntKind.i64 (IntKind.wrap IntKind.i64 (IntKind.wrap IntKind.i64 (IntKind.wrap IntKind.i64 (IntKind.wrap IntKind.i64 (0 + 1) + 1) + 1) + 1) + 1) + 1)) == (↑c : Int), false), (strAt { data := #[48, 49, 50, 51, 52, 53, 54, 55, 56, 57, 97, 98, 99, 100, 101, 102] } (IntKind.wrap IntKind.i64 (IntKind.wrap IntKind.i64 (IntKind.wrap IntKind.i64 (IntKind.wrap IntKind.i64 (IntKind.wrap IntKind.i64 (IntKind.wrap IntKind.i64 (IntKind.wrap IntKind.i64 (0 + 1) + 1) + 1) + 1) + 1) + 1) + 1)) == (↑c : Int), false), (strAt { data := #[48, 49, 50, 51, 52, 53, 54, 55, 56, 57, 97, 98, 99, 100, 101, 102] } (IntKind.wrap IntKind.i64 (IntKind.wrap IntKind.i64 (IntKind.wrap IntKind.i64 (IntKind.wrap IntKind.i64 (IntKind.wrap IntKind.i64 (IntKind.wrap IntKind.i64 (IntKind.wrap IntKind.i64 (IntKind.wrap IntKind.i64 (0 + 1) + 1) + 1) + 1) + 1) + 1) + 1) + 1)) == (↑c : Int), false), (strAt { data := #[48, 49, 50, 51, 52, 53, 54, 55, 56, 57, 97, 98, 99, 100, 101, 102] } (IntKind.wrap IntKind.i64 (IntKind.wrap IntKind.i64 (IntKind.wrap IntKind.i64 (IntKind.wrap IntKind.i64 (IntKind.wrap IntKind.i64 (IntKind.wrap IntKind.i64 (IntKind.wrap IntKind.i64 (IntKind.wrap IntKind.i64 (IntKind.wrap IntKind.i64 (0 + 1) + 1) + 1) + 1) + 1) + 1) + 1) + 1) + 1)) == (↑c : Int), false), (strAt { data := #[48, 49, 50, 51, 52, 53, 54, 55, 56, 57, 97, 98, 99, 100, 101, 102] } (IntKind.wrap IntKind.i64 (IntKind.wrap IntKind.i64 (IntKind.wrap IntKind.i64 (IntKind.wrap IntKind.i64 (IntKind.wrap IntKind.i64 (IntKind.wrap IntKind.i64 (IntKind.wrap IntKind.i64 (IntKind.wrap IntKind.i64 (IntKind.wrap IntKind.i64 (IntKind.wrap IntKind.i64 (0 + 1) + 1) + 1) + 1) + 1) + 1) + 1) + 1) + 1) + 1)) == (↑c : Int), false), (strAt { data := #[48, 49, 50, 51, 52, 53, 54, 55, 56, 57, 97, 98, 99, 100, 101, 102] } (IntKind.wrap IntKind.i64 (IntKind.wrap IntKind.i64 (IntKind.wrap IntKind.i64 (IntKind.wrap IntKind.i64 (IntKind.wrap IntKind.i64 (IntKind.wrap IntKind.i64 (IntKind.wrap IntKind.i64 (IntKind.wrap IntKind.i64 (IntKind.wrap IntKind.i64 (IntKind.wrap IntKind.i64 (IntKind.wrap IntKind.i64 (0 + 1) + 1) + 1) + 1) + 1) + 1) + 1) + 1) + 1) + 1) + 1)) == (↑c : Int), false), (strAt { data := #[48, 49, 50, 51, 52, 53, 54, 55, 56, 57, 97, 98, 99, 100, 101, 102] } (IntKind.wrap IntKind.i64 (IntKind.wrap IntKind.i64 (IntKind.wrap IntKind.i64 (IntKind.wrap IntKind.i64 (IntKind.wrap IntKind.i64 (IntKind.wrap IntKind.i64 (IntKind.wrap IntKind.i64 (IntKind.wrap IntKind.i64 (IntKind.wrap IntKind.i64 (IntKind.wrap IntKind.i64 (IntKind.wrap IntKind.i64 (IntKind.wrap IntKind.i64 (0 + 1) + 1) + 1) + 1) + 1) + 1) + 1) + 1) + 1) + 1) + 1) + 1)) == (↑c : Int), false), (strAt { data := #[48, 49, 50, 51, 52, 53, 54, 55, 56, 57, 97, 98, 99, 100, 101, 102] } (IntKind.wrap IntKind.i64 (IntKind.wrap IntKind.i64 (IntKind.wrap IntKind.i64 (IntKind.wrap IntKind.i64 (IntKind.wrap IntKind.i64 (IntKind.wrap IntKind.i64 (IntKind.wrap IntKind.i64 (IntKind.wrap IntKind.i64 (IntKind.wrap IntKind.i64 (IntKind.wrap IntKind.i64 (IntKind.wrap IntKind.i64 (IntKind.wrap IntKind.i64 (IntKind.wrap IntKind.i64 (0 + 1) + 1) + 1) + 1) + 1) + 1) + 1) + 1) + 1) + 1) + 1) + 1) + 1)) == (↑c : Int), true)]) : Is (evCall (mkEnv noRows []) 60 33 [.int .u8 false (c : Int)] ⟨[], [false, false, false, false, false, false, false, false, false, false, false, false, false, true], allW⟩ (fun v _ => v = dig_r13 c)) := ev_eq [(strAt { data := #[48, 49, 50, 51, 52, 53, 54, 55, 56, 57, 97, 98, 99, 100, 101, 102] } 0 == (↑c : Int), false), (strAt { data := #[48, 49, 50, 51, 52, 53, 54, 55, 56, 57, 97, 98, 99, 100, 101, 102] } (IntKind.wrap IntKind.i64 (0 + 1)) == (↑c : Int), false), (strAt { data := #[48, 49, 50, 51, 52, 53, 54, 55, 56, 57, 97, 98, 99, 100, 101, 102] } (IntKind.wrap IntKind.i64 (IntKind.wrap IntKind.i64 (0 + 1) + 1)) == (↑c : Int), false), (strAt { data := #[48, 49, 50, 51, 52, 53, 54, 55, 56, 57, 97, 98, 99, 100, 101, 102] } (IntKind.wrap IntKind.i64 (IntKind.wrap IntKind.i64 (IntKind.wrap IntKind.i64 (0 + 1) + 1) + 1)) == (↑c : Int), false), (strAt { data := #[48, 49, 50, 51, 52, 53, 54, 55, 56, 57, 97, 98, 99, 100, 101, 102] } (IntKind.wrap IntKind.i64 (IntKind.wrap IntKind.i64 (IntKind.wrap IntKind.i64 (IntKind.wrap IntKind.i64 (0 + 1) + 1) + 1) + 1)) == (↑c : Int), false), (strAt { data := #[48, 49, 50, 51, 52, 53, 54, 55, 56, 57, 97, 98, 99, 100, 101, 102] } (IntKind.wrap IntKind.i64 (IntKind.wrap IntKind.i64 (IntKind.wrap IntKind.i64 (IntKind.wrap IntKind.i64 (IntKind.wrap IntKind.i64 (0 + 1) + 1) + 1) + 1) + 1)) == (↑c : Int), false), (strAt { data := #[48, 49, 50, 51, 52, 53, 54, 55, 56, 57, 97, 98, 99, 100, 101, 102] } (IntKind.wrap IntKind.i64 (IntKind.wrap IntKind.i64 (IntKind.wrap IntKind.i64 (IntKind.wrap IntKind.i64 (IntKind.wrap IntKind.i64 (IntKind.wrap IntKind.i64 (0 + 1) + 1) + 1) + 1) + 1) + 1)) == (↑c : Int), false), (strAt { data := #[48, 49, 50, 51, 52, 53, 54, 55, 56, 57, 97, 98, 99, 100, 101, 102] } (IntKind.wrap IntKind.i64 (IntKind.wrap IntKind.i64 (IntKind.wrap IntKind.i64 (IntKind.wrap IntKind.i64 (IntKind.wrap IntKind.i64 (IntKind.wrap IntKind.i64 (IntKind.wrap IntKind.i64 (0 + 1) + 1) + 1) + 1) + 1) + 1) + 1)) == (↑c : Int), false), (strAt { data := #[48, 49, 50, 51, 52, 53, 54, 55, 56, 57, 97, 98, 99, 100, 101, 102] } (IntKind.wrap IntKind.i64 (IntKind.wrap IntKind.i64 (IntKind.wrap IntKind.i64 (IntKind.wrap IntKind.i64 (IntKind.wrap IntKind.i64 (IntKind.wrap IntKind.i64 (IntKind.wrap IntKind.i64 (IntKind.wrap IntKind.i64 (0 + 1) + 1) + 1) + 1) + 1) + 1) + 1) + 1)) == (↑c : Int), false), (strAt { data := #[48, 49, 50, 51, 52, 53, 54, 55, 56, 57, 97, 98, 99, 100, 101, 102] } (IntKind.wrap IntKind.i64 (IntKind.wrap IntKind.i64 (IntKind.wrap IntKind.i64 (IntKind.wrap IntKind.i64 (IntKind.wrap IntKind.i64 (IntKind.wrap IntKind.i64 (IntKind.wrap IntKind.i64 (IntKind.wrap IntKind.i64 (IntKind.wrap IntKind.i64 (0 + 1) + 1) + 1) + 1) + 1) + 1) + 1) + 1) + 1)) == (↑c : Int), false), (strAt { data := #[48, 49, 50, 51, 52, 53, 54, 55, 56, 57, 97, 98, 99, 100, 101, 102] } (IntKind.wrap IntKind.i64 (IntKind.wrap IntKind.i64 (IntKind.wrap IntKind.i64 (IntKind.wrap IntKind.i64 (IntKind.wrap IntKind.i64 (IntKind.wrap IntKind.i64 (IntKind.wrap IntKind.i64 (IntKind.wrap IntKind.i64 (IntKind.wrap IntKind.i64 (IntKind.wrap IntKind.i64 (0 + 1) + 1) + 1) + 1) + 1) + 1) + 1) + 1) + 1) + 1)) == (↑c : Int), false), (strAt { data := #[48, 49, 50, 51, 52, 53, 54, 55, 56, 57, 97, 98, 99, 100, 101, 102] } (IntKind.wrap IntKind.i64 (IntKind.wrap IntKind.i64 (IntKind.wrap IntKind.i64 (IntKind.wrap IntKind.i64 (IntKind.wrap IntKind.i64 (IntKind.wrap IntKind.i64 (IntKind.wrap IntKind.i64 (IntKind.wrap IntKind.i64 (IntKind.wrap IntKind.i64 (IntKind.wrap IntKind.i64 (IntKind.wrap IntKind.i64 (0 + 1) + 1) + 1) + 1) + 1) + 1) + 1) + 1) + 1) + 1) + 1)) == (↑c : Int), false), (strAt { data := #[48, 49, 50, 51, 52, 53, 54, 55, 56, 57, 97, 98, 99, 100, 101, 102] } (IntKind.wrap IntKind.i64 (IntKind.wrap IntKind.i64 (IntKind.wrap IntKind.i64 (IntKind.wrap IntKind.i64 (IntKind.wrap IntKind.i64 (IntKind.wrap IntKind.i64 (IntKind.wrap IntKind.i64 (IntKind.wrap IntKind.i64 (IntKind.wrap IntKind.i64 (IntKind.wrap IntKind.i64 (IntKind.wrap IntKind.i64 (IntKind.wrap IntKind.i64 (0 + 1) + 1) + 1) + 1) + 1) + 1) + 1) + 1) + 1) + 1) + 1) + 1)) == (↑c : Int), false), (strAt { data := #[48, 49, 50, 51, 52, 53, 54, 55, 56, 57, 97, 98, 99, 100, 101, 102] } (IntKind.wrap IntKind.i64 (IntKind.wrap IntKind.i64 (IntKind.wrap IntKind.i64 (IntKind.wrap IntKind.i64 (IntKind.wrap IntKind.i64 (IntKind.wrap IntKind.i64 (IntKind.wrap IntKind.i64 (IntKind.wrap IntKind.i64 (IntKind.wrap IntKind.i64 (IntKind.wrap IntKind.i64 (IntKind.wrap IntKind.i64 (IntKind.wrap IntKind.i64 (IntKind.wrap IntKind.i64 (0 + 1) + 1) + 1) + 1) + 1) + 1) + 1) + 1) + 1) + 1) + 1) + 1) + 1)) == (↑c : Int), true)] (dig_r13 c) (by kernel_rfl) h
noncomputable def dig_r14 (c : Nat) : AV := AV.int IntKind.i64 true 14
theorem dig_14 (c : Nat) (h : AllE [(strAt { data := #[48, 49, 50, 51, 52, 53, 54, 55, 56, 57, 97, 98, 99, 100, 101, 102] } 0 == (↑c : Int), false), (strAt { data := #[48, 49, 50, 51, 52, 53, 54, 55, 56, 57, 97, 98, 99, 100, 101, 102] } (IntKind.wrap IntKind.i64 (0 + 1)) == (↑c : Int), false), (strAt { data := #[48, 49, 50, 51, 52, 53, 54, 55, 56, 57, 97, 98, 99, 100, 101, 102] } (IntKind.wrap IntKind.i64 (IntKind.wrap IntKind.i64 (0 + 1) + 1)) == (↑c : Int), false), (strAt { data := #[48, 49, 50, 51, 52, 53, 54, 55, 56, 57, 97, 98, 99, 100, 101, 102] } (IntKind.wrap IntKind.i64 (IntKind.wrap IntKind.i64 (IntKind.wrap IntKind.i64 (0 + 1) + 1) + 1)) == (↑c : Int), false), (strAt { data := #[48, 49, 50, 51, 52, 53, 54, 55, 56, 57, 97, 98, 99, 100, 101, 102] } (IntKind.wrap IntKind.i64 (IntKind.wrap IntKind.i64 (IntKind.wrap IntKind.i64 (IntKind.wrap IntKind.i64 (0 + 1) + 1) + 1) + 1)) == (↑c : Int), false), (strAt { data := #[48, 49, 50, 51, 52, 53, 54, 55, 56, 57, 97, 98, 99, 100, 101, 102] } (IntKind.wrap IntKind.i64 (IntKind.wrap IntKind.i64 (IntKind.wrap IntKind.i64 (IntKind.wrap IntKind.i64 (IntKind.wrap IntKind.i64 (0 + 1) + 1) + 1) + 1) + 1)) == (↑c : Int), false), (strAt { data := #[48, 49, 50, 51, 52, 53, 54, 55, 56, 57, 97, 98, 99, 100, 101, 102] } (IntKind.wrap IntKind.i64 (IntKind.wrap IntKind.i64 (IntKind.wrap IntKind.i64 (IntKind.wrap IntKind.i64 (IntKind.wrap IntKind.i64 (IntKind.wrap IntKind.i64 (0 + 1) + 1) + 1) + 1) + 1) + 1)) == (↑c : Int), false), (strAt { data := #[48, 49, 50, 51, 52, 53, 54, 55, 56, 57, 97, 98, 99, 100, 101, 102] } (IntKind.wrap IntKind.i64 (IntKind.wrap IntKind.i64 (IntKind.wrap IntKind.i64 (IntKind.wrap IntKind.i64 (IntKind.wrap IntKind.i64 (IntKind.wrap IntKind.i64 (IntKind.wrap IntKind.i64 (0 + 1) + 1) + 1) + 1) + 1) + 1) + 1)) == (↑c : Int), false), (strAt { data := #[48, 49, 50, 51, 52, 53, 54, 55, 56, 57, 97, 98, 99, 100, 101, 102] } (IntKind.wrap IntKind.i64 (IntKind.wrap IntKind.i64 (IntKind.wrap IntKind.i64 (IntKind.wrap IntKind.i64 (IntKind.wrap IntKind.i64 (IntKind.wrap IntKind.i64 (IntKind.wrap IntKind.i64 (IntKind.wrap IntKind.i64 (0 + 1) + 1) + 1) + 1) + 1) + 1) + 1) + 1)) == (↑c : Int), false), (strAt { data := #[48, 49, 50, 51, 52, 53, 54, 55, 56, 57, 97, 98, 99, 100, 101, 102] } (IntKind.wrap IntKind.i64 (IntKind.wrap IntKind.i64 (IntKind.wrap IntKind.i64 (IntKind.wrap IntKind.i64 (IntKind.wrap IntKind.i64 (IntKind.wrap IntKind.i64 (IntKind.wrap IntKind.i64 (IntKind.wrap IntKind.i64 (IntKind.wrap IntKind.i64 (0 + 1) + 1) + 1) + 1) + 1) + 1) + 1) + 1) + 1)) == (↑c : Int), false), (strAt { data := #[48, 49, 50, 51, 52, 53, 54, 55, 56, 57, 97, 98, 99, 100, 101, 102] } (IntKind.wrap IntKind.i64 (IntKind.wrap IntKind.i64 (IntKind.wrap IntKind.i64 (IntKind.wrap IntKind.i64 (IntKind.wrap IntKind.i64 (IntKind.wrap IntKind.i64 (IntKind.wrap IntKind.i64 (IntKind.wrap IntKind.i64 (IntKind.wrap IntKind.i64 (IntKind.wrap IntKind.i64 (0 + 1) + 1) + 1) + 1) + 1) + 1) + 1) + 1) + 1) + 1)) == (↑c : Int), false), (strAt { data := #[48, 49, 50, 51, 52, 53, 54, 55, 56, 57, 97, 98, 99, 100, 101, 102] } (IntKind.wrap IntKind.i64 (IntKind.wrap IntKind.i64 (IntKind.wrap IntKind.i64 (IntKind.wrap IntKind.i64 (IntKind.wrap IntKind.i64 (IntKind.wrap IntKind.i64 (IntKind.wrap IntKind.i64 (IntKind.wrap IntKind.i64 (IntKind.wrap IntKind.i64 (IntKind.wrap IntKind.i64 (IntKind.wrap IntKind.i64 (0 + 1) + 1) + 1) + 1) + 1) + 1) + 1) + 1) + 1) + 1) + 1)) == (↑c : Int), false), (strAt { data := #[48, 49, 50, 51, 52, 53, 54, 55, 56, 57, 97, 98, 99, 100, 101, 102] } (IntKind.wrap IntKind.i64 (IntKind.wrap IntKind.i64 (IntKind.wrap IntKind.i64 (IntKind.wrap IntKind.i64 (IntKind.wrap IntKind.i64 (IntKind.wrap IntKind.i64 (IntKind.wrap IntKind.i64 (IntKind.wrap IntKind.i64 (IntKind.wrap IntKind.i64 (IntKind.wrap IntKind.i64 (IntKind.wrap IntKind.i64 (IntKind.wrap IntKind.i64 (0 + 1) + 1) + 1) + 1) + 1) + 1) + 1) + 1) + 1) + 1) + 1) + 1)) == (↑c : Int), false), (strAt { data := #[48, 49, 50, 51, 52, 53, 54, 55, 56, 57, 97, 98, 99, 100, 101, 102] } (IntKind.wrap IntKind.i64 (IntKind.wrap IntKind.i64 (IntKind.wrap IntKind.i64 (IntKind.wrap IntKind.i64 (IntKind.wrap IntKind.i64 (IntKind.wrap IntKind.i64 (IntKind.wrap IntKind.i64 (IntKind.wrap IntKind.i64 (IntKind.wrap IntKind.i64 (IntKind.wrap IntKind.i64 (IntKind.wrap IntKind.i64 (IntKind.wrap IntKind.i64 (IntKind.wrap IntKind.i64 (0 + 1) + 1) + 1) + 1) + 1) + 1) + 1) + 1) + 1) + 1) + 1) + 1) + 1)) == (↑c : Int), false), (strAt { data := #[48, 49, 50, 51, 52, 53, 54, 55, 56, 57, 97, 98, 99, 100, 101, 102] } (IntKind.wrap IntKind.i64 (IntKind.wrap IntKind.i64 (IntKind.wrap IntKind.i64 (IntKind.wrap IntKind.i64 (IntKind.wrap IntKind.i64 (IntKind.wrap IntKind.i64 (IntKind.wrap IntKind.i64 (IntKind.wrap IntKind.i64 (IntKind.wrap IntKind.i64 (IntKind.wrap IntKind.i64 (IntKind.wrap IntKind.i64 (IntKind.wrap IntKind.i64 (IntKind.wrap IntKind.i64 (IntKind.wrap IntKind.i64 (0 + 1) + 1) + 1) + 1) + 1) + 1) + 1) + 1) + 1) + 1) + 1) + 1) + 1) + 1)) == (↑c : Int), true)]) : Is (evCall (mkEnv noRows []) 60 33 [.int .u8 false (c : Int)] ⟨[], [false, false, false, false, false, false, false, false, false, false, false, false, false, false, true], allW⟩ (fun v _ => v = dig_r14 c)) := ev_eq [(strAt { data := #[48, 49, 50, 51, 52, 53, 54, 55, 56, 57, 97, 98, 99, 100, 101, 102] } 0 == (↑c : Int), false), (strAt { data := #[48, 49, 50, 51, 52, 53, 54, 55, 56, 57, 97, 98, 99, 100, 101, 102] } (IntKind.wrap IntKind.i64 (0 + 1)) == (↑c : Int), false), (strAt { data := #[48, 49, 50, 51, 52, 53, 54, 55, 56, 57, 97, 98, 99, 100, 101, 102] } (IntKind.wrap IntKind.i64 (IntKind.wrap IntKind.i64 (0 + 1) + 1)) == (↑c : Int), false), (strAt { data := #[48, 49, 50, 51, 52, 53, 54, 55, 56, 57, 97, 98, 99, 100, 101, 102] } (IntKind.wrap IntKind.i64 (IntKind.wrap IntKind.i64 (IntKind.wrap IntKind.i64 (0 + 1) + 1) + 1)) == (↑c : Int), false), (strAt { data := #[48, 49, 50, 51, 52, 53, 54, 55, 56, 57, 97, 98, 99, 100, 101, 102] } (IntKind.wrap IntKind.i64 (IntKind.wrap IntKind.i64 (IntKind.wrap IntKind.i64 (IntKind.wrap IntKind.i64 (0 + 1) + 1) + 1) + 1)) == (↑c : Int), false), (strAt { data := #[48, 49, 50, 51, 52, 53, 54, 55, 56, 57, 97, 98, 99, 100, 101, 102] } (IntKind.wrap IntKind.i64 (IntKind.wrap IntKind.i64 (IntKind.wrap IntKind.i64 (IntKind.wrap IntKind.i64 (IntKind.wrap IntKind.i64 (0 + 1) + 1) + 1) + 1) + 1)) == (↑c : Int), false), (strAt { data := #[48, 49, 50, 51, 52, 53, 54, 55, 56, 57, 97, 98, 99, 100, 101, 102] } (IntKind.wrap IntKind.i64 (IntKind.wrap IntKind.i64 (IntKind.wrap IntKind.i64 (IntKind.wrap IntKind.i64 (IntKind.wrap IntKind.i64 (IntKind.wrap IntKind.i64 (0 + 1) + 1) + 1) + 1) + 1) + 1)) == (↑c : Int), false), (strAt { data := #[48, 49, 50, 51, 52, 53, 54, 55, 56, 57, 97, 98, 99, 100, 101, 102] } (IntKind.wrap IntKind.i64 (IntKind.wrap IntKind.i64 (IntKind.wrap IntKind.i64 (IntKind.wrap IntKind.i64 (IntKind.wrap IntKind.i64 (IntKind.wrap IntKind.i64 (IntKind.wrap IntKind.i64 (0 + 1) + 1) + 1) + 1) + 1) + 1) + 1)) == (↑c : Int), false), (strAt { data := #[48, 49, 50, 51, 52, 53, 54, 55, 56, 57, 97, 98, 99, 100, 101, 102] } (IntKind.wrap IntKind.i64 (IntKind.wrap IntKind.i64 (IntKind.wrap IntKind.i64 (IntKind.wrap IntKind.i64 (IntKind.wrap IntKind.i64 (IntKind.wrap IntKind.i64 (IntKind.wrap IntKind.i64 (IntKind.wrap IntKind.i64 (0 + 1) + 1) + 1) + 1) + 1) + 1) + 1) + 1)) == (↑c : Int), false), (strAt { data := #[48, 49, 50, 51, 52, 53, 54, 55, 56, 57, 97, 98, 99, 100, 101, 102] } (IntKind.wrap IntKind.i64 (IntKind.wrap IntKind.i64 (IntKind.wrap IntKind.i64 (IntKind.wrap IntKind.i64 (IntKind.wrap IntKind.i64 (IntKind.wrap IntKind.i64 (IntKind.wrap IntKind.i64 (IntKind.wrap IntKind.i64 (IntKind.wrap IntKind.i64 (0 + 1) + 1) + 1) + 1) + 1) + 1) + 1) + 1) + 1)) == (↑c : Int), false), (strAt { data := #[48, 49, 50, 51, 52, 53, 54, 55, 56, 57, 97, 98, 99, 100, 101, 102] } (IntKind.wrap IntKind.i64 (IntKind.wrap IntKind.i64 (IntKind.wrap IntKind.i64 (IntKind.wrap IntKind.i64 (IntKind.wrap IntKind.i64 (IntKind.wrap IntKind.i64 (IntKind.wrap IntKind.i64 (IntKind.wrap IntKind.i64 (IntKind.wrap IntKind.i64 (IntKind.wrap IntKind.i64 (0 + 1) + 1) + 1) + 1) + 1) + 1) + 1) + 1) + 1) + 1)) == (↑c : Int), false), (strAt { data := #[48, 49, 50, 51, 52, 53, 54, 55, 56, 57, 97, 98, 99, 100, 101, 102] } (IntKind.wrap IntKind.i64 (IntKind.wrap IntKind.i64 (IntKind.wrap IntKind.i64 (IntKind.wrap IntKind.i64 (IntKind.wrap IntKind.i64 (IntKind.wrap IntKind.i64 (IntKind.wrap IntKind.i64 (IntKind.wrap IntKind.i64 (IntKind.wrap IntKind.i64 (IntKind.wrap IntKind.i64 (IntKind.wrap IntKind.i64 (0 + 1) + 1) + 1) + 1) + 1) + 1) + 1) + 1) + 1) + 1) + 1)) == (↑c : Int), false), (strAt { data := #[48, 49, 50, 51, 52, 53, 54, 55, 56, 57, 97, 98, 99, 100, 101, 102] } (IntKind.wrap IntKind.i64 (IntKind.wrap IntKind.i64 (IntKind.wrap IntKind.i64 (IntKind.wrap IntKind.i64 (IntKind.wrap IntKind.i64 (IntKind.wrap IntKind.i64 (IntKind.wrap IntKind.i64 (IntKind.wrap IntKind.i64 (IntKind.wrap IntKind.i64 (IntKind.wrap IntKind.i64 (IntKind.wrap IntKind.i64 (IntKind.wrap IntKind.i64 (0 + 1) + 1) + 1) + 1) + 1) + 1) + 1) + 1) + 1) + 1) + 1) + 1)) == (↑c : Int), false), (strAt { data := #[48, 49, 50, 51, 52, 53, 54, 55, 56, 57, 97, 98, 99, 100, 101, 102] } (IntKind.wrap IntKind.i64 (IntKind.wrap IntKind.i64 (IntKind.wrap IntKind.i64 (IntKind.wrap IntKind.i64 (IntKind.wrap IntKind.i64 (IntKind.wrap IntKind.i64 (IntKind.wrap IntKind.i64 (IntKind.wrap IntKind.i64 (IntKind.wrap IntKind.i64 (IntKind.wrap IntKind.i64 (IntKind.wrap IntKind.i64 (IntKind.wrap IntKind.i64 (IntKind.wrap IntKind.i64 (0 + 1) + 1) + 1) + 1) + 1) + 1) + 1) + 1) + 1) + 1) + 1) + 1) + 1)) == (↑c : Int), false), (strAt { data := #[48, 49, 50, 51, 52, 53, 54, 55, 56, 57, 97, 98, 99, 100, 101, 102] } (IntKind.wrap IntKind.i64 (IntKind.wrap IntKind.i64 (IntKind.wrap IntKind.i64 (IntKind.wrap IntKind.i64 (IntKind.wrap IntKind.i64 (IntKind.wrap IntKind.i64 (IntKind.wrap IntKind.i64 (IntKind.wrap IntKind.i64 (IntKind.wrap IntKind.i64 (IntKind.wrap IntKind.i64 (IntKind.wrap IntKind.i64 (IntKind.wrap IntKind.i64 (IntKind.wrap IntKind.i64 (IntKind.wrap IntKind.i64 (0 + 1) + 1) + 1) + 1) + 1) + 1) + 1) + 1) + 1) + 1) + 1) + 1) + 1) + 1)) == (↑c : Int), true)] (dig_r14 c) (by kernel_rfl) h
noncomputable def dig_r15 (c : Nat) : AV := AV.int IntKind.i64 true 15
theorem dig_15 (c : Nat) (h : AllE [(strAt { data := #[48, 49, 50, 51, 52, 53, 54, 55, 56, 57, 97, 98, 99, 100, 101, 102] } 0 == (↑c : Int), false), (strAt { data := #[48, 49, 50, 51, 52, 53, 54, 55, 56, 57, 97, 98, 99, 100, 101, 102] } (IntKind.wrap IntKind.i64 (0 + 1)) == (↑c : Int), false), (strAt { data := #[48, 49, 50, 51, 52, 53, 54, 55, 56, 57, 97, 98, 99, 100, 101, 102] } (IntKind.wrap IntKind.i64 (IntKind.wrap IntKind.i64 (0 + 1) + 1)) == (↑c : Int), false), (strAt { data := #[48, 49, 50, 51, 52, 53, 54, 55, 56, 57, 97, 98, 99, 100, 101, 102] } (IntKind.wrap IntKind.i64 (IntKind.wrap IntKind.i64 (IntKind.wrap IntKind.i64 (0 + 1) + 1) + 1)) == (↑c : Int), false), (strAt { data := #[48, 49, 50, 51, 52, 53, 54, 55, 56, 57, 97, 98, 99, 100, 101, 102] } (IntKind.wrap IntKind.i64 (IntKind.wrap IntKind.i64 (IntKind.wrap IntKind.i64 (IntKind.wrap IntKind.i64 (0 + 1) + 1) + 1) + 1)) == (↑c : Int), false), (strAt { data := #[48, 49, 50, 51, 52, 53, 54, 55, 56, 57, 97, 98, 99, 100, 101, 102] } (IntKind.wrap IntKind.i64 (IntKind.wrap IntKind.i64 (IntKind.wrap IntKind.i64 (IntKind.wrap IntKind.i64 (IntKind.wrap IntKind.i64 (0 + 1) + 1) + 1) + 1) + 1)) == (↑c : Int), false), (strAt { data := #[48, 49, 50, 51, 52, 53, 54, 55, 56, 57, 97, 98, 99, 100, 101, 102] } (IntKind.wrap IntKind.i64 (IntKind.wrap IntKind.i64 (IntKind.wrap IntKind.i64 (IntKind.wrap IntKind.i64 (IntKind.wrap IntKind.i64 (IntKind.wrap IntKind.i64 (0 + 1) + 1) + 1) + 1) + 1) + 1)) == (↑c : Int), false), (strAt { data := #[48, 49, 50, 51, 52, 53, 54, 55, 56, 57, 97, 98, 99, 100, 101, 102] } (IntKind.wrap IntKind.i64 (IntKind.wrap IntKind.i64 (IntKind.wrap IntKind.i64 (IntKind.wrap IntKind.i64 (IntKind.wrap IntKind.i64 (IntKind.wrap IntKind.i64 (IntKind.wrap IntKind.i64 (0 + 1) + 1) + 1) + 1) + 1) + 1) + 1)) == (↑c : Int), false), (strAt { data := #[48, 49, 50, 51, 52, 53, 54, 55, 56, 57, 97, 98, 99, 100, 101, 102] } (IntKind.wrap IntKind.i64 (IntKind.wrap IntKind.i64 (IntKind.wrap IntKind.i64 (IntKind.wrap IntKind.i64 (IntKind.wrap IntKind.i64 (IntKind.wrap IntKind.i64 (IntKind.wrap IntKind.i64 (IntKind.wrap IntKind.i64 (0 + 1) + 1) + 1) + 1) + 1) + 1) + 1) + 1)) == (↑c : Int), false), (strAt { data := #[48, 49, 50, 51, 52, 53, 54, 55, 56, 57, 97, 98, 99, 100, 101, 102] } (IntKind.wrap IntKind.i64 (IntKind.wrap IntKind.i64 (IntKind.wrap IntKind.i64 (IntKind.wrap IntKind.i64 (IntKind.wrap IntKind.i64 (IntKind.wrap IntKind.i64 (IntKind.wrap IntKind.i64 (IntKind.wrap IntKind.i64 (IntKind.wrap IntKind.i64 (0 + 1) + 1) + 1) + 1) + 1) + 1) + 1) + 1) + 1)) == (↑c : Int), false), (strAt { data := #[48, 49, 50, 51, 52, 53, 54, 55, 56, 57, 97, 98, 99, 100, 101, 102] } (IntKind.wrap IntKind.i64 (IntKind.wrap IntKind.i64 (IntKind.wrap IntKind.i64 (IntKind.wrap IntKind.i64 (IntKind.wrap IntKind.i64 (IntKind.wrap IntKind.i64 (IntKind.wrap IntKind.i64 (IntKind.wrap IntKind.i64 (IntKind.wrap IntKind.i64 (IntKind.wrap IntKind.i64 (0 + 1) + 1) + 1) + 1) + 1) + 1) + 1) + 1) + 1) + 1)) == (↑c : Int), false), (strAt { data := #[48, 49, 50, 51, 52, 53, 54, 55, 56, 57, 97, 98, 99, 100, 101, 102] } (IntKind.wrap IntKind.i64 (IntKind.wrap IntKind.i64 (IntKind.wrap IntKind.i64 (IntKind.wrap IntKind.i64 (IntKind.wrap IntKind.i64 (IntKind.wrap IntKind.i64 (IntKind.wrap IntKind.i64 (IntKind.wrap IntKind.i64 (IntKind.wrap IntKind.i64 (IntKind.wrap IntKind.i64 (IntKind.wrap IntKind.i64 (0 + 1) + 1) + 1) + 1) + 1) + 1) + 1) + 1) + 1) + 1) + 1)) == (↑c : Int), false), (strAt { data := #[48, 49, 50, 51, 52, 53, 54, 55, 56, 57, 97, 98, 99, 100, 101, 102] } (IntKind.wrap IntKind.i64 (IntKind.wrap IntKind.i64 (IntKind.wrap IntKind.i64 (IntKind.wrap IntKind.i64 (IntKind.wrap IntKind.i64 (IntKind.wrap IntKind.i64 (IntKind.wrap IntKind.i64 (IntKind.wrap IntKind.i64 (IntKind.wrap IntKind.i64 (IntKind.wrap IntKind.i64 (IntKind.wrap IntKind.i64 (IntKind.wrap IntKind.i64 (0 + 1) + 1) + 1) + 1) + 1) + 1) + 1) + 1) + 1) + 1) + 1) + 1)) == (↑c : Int), false), (strAt { data := #[48, 49, 50, 51, 52, 53, 54, 55, 56, 57, 97, 98, 99, 100, 101, 102] } (IntKind.wrap IntKind.i64 (IntKind.wrap IntKind.i64 (IntKind.wrap IntKind.i64 (IntKind.wrap IntKind.i64 (IntKind.wrap IntKind.i64 (IntKind.wrap IntKind.i64 (IntKind.wrap IntKind.i64 (IntKind.wrap IntKind.i64 (IntKind.wrap IntKind.i64 (IntKind.wrap IntKind.i64 (IntKind.wrap IntKind.i64 (IntKind.wrap IntKind.i64 (IntKind.wrap IntKind.i64 (0 + 1) + 1) + 1) + 1) + 1) + 1) + 1) + 1) + 1) + 1) + 1) + 1) + 1)) == (↑c : Int), false), (strAt { data := #[48, 49, 50, 51, 52, 53, 54, 55, 56, 57, 97, 98, 99, 100, 101, 102] } (IntKind.wrap IntKind.i64 (IntKind.wrap IntKind.i64 (IntKind.wrap IntKind.i64 (IntKind.wrap IntKind.i64 (IntKind.wrap IntKind.i64 (IntKind.wrap IntKind.i64 (IntKind.wrap IntKind.i64 (IntKind.wrap IntKind.i64 (IntKind.wrap IntKind.i64 (IntKind.wrap IntKind.i64 (IntKind.wrap IntKind.i64 (IntKind.wrap IntKind.i64 (IntKind.wrap IntKind.i64 (IntKind.wrap IntKind.i64 (0 + 1) + 1) + 1) + 1) + 1) + 1) + 1) + 1) + 1) + 1) + 1) + 1) + 1) + 1)) == (↑c : Int), false), (strAt { data := #[48, 49, 50, 51, 52, 53, 54, 55, 56, 57, 97, 98, 99, 100, 101, 102] } (IntKind.wrap IntKind.i64 (IntKind.wrap IntKind.i64 (IntKind.wrap IntKind.i64 (IntKind.wrap IntKind.i64 (IntKind.wrap IntKind.i64 (IntKind.wrap IntKind.i64 (IntKind.wrap IntKind.i64 (IntKind.wrap IntKind.i64 (IntKind.wrap IntKind.i64 (IntKind.wrap IntKind.i64 (IntKind.wrap IntKind.i64 (IntKind.wrap IntKind.i64 (IntKind.wrap IntKind.i64 (IntKind.wrap IntKind.i64 (IntKind.wrap IntKind.i64 (0 + 1) + 1) + 1) + 1) + 1) + 1) + 1) + 1) + 1) + 1) + 1) + 1) + 1) + 1) + 1)) == (↑c : Int), true)]) : Is (evCall (mkEnv noRows []) 60 33 [.int .u8 false (c : Int)] ⟨[], [false, false, false, false, false, false, false, false, false, false, false, false, false, false, false, true], allW⟩ (fun v _ => v = dig_r15 c)) := ev_eq [(strAt { data := #[48, 49, 50, 51, 52, 53, 54, 55, 56, 57, 97, 98, 99, 100, 101, 102] } 0 == (↑c : Int), false), (strAt { data := #[48, 49, 50, 51, 52, 53, 54, 55, 56, 57, 97, 98, 99, 100, 101, 102] } (IntKind.wrap IntKind.i64 (0 + 1)) == (↑c : Int), false), (strAt { data := #[48, 49, 50, 51, 52, 53, 54, 55, 56, 57, 97, 98, 99, 100, 101, 102] } (IntKind.wrap IntKind.i64 (IntKind.wrap IntKind.i64 (0 + 1) + 1)) == (↑c : Int), false), (strAt { data := #[48, 49, 50, 51, 52, 53, 54, 55, 56, 57, 97, 98, 99, 100, 101, 102] } (IntKind.wrap IntKind.i64 (IntKind.wrap IntKind.i64 (IntKind.wrap IntKind.i64 (0 + 1) + 1) + 1)) == (↑c : Int), false), (strAt { data := #[48, 49, 50, 51, 52, 53, 54, 55, 56, 57, 97, 98, 99, 100, 101, 102] } (IntKind.wrap IntKind.i64 (IntKind.wrap IntKind.i64 (IntKind.wrap IntKind.i64 (IntKind.wrap IntKind.i64 (0 + 1) + 1) + 1) + 1)) == (↑c : Int), false), (strAt { data := #[48, 49, 50, 51, 52, 53, 54, 55, 56, 57, 97, 98, 99, 100, 101, 102] } (IntKind.wrap IntKind.i64 (IntKind.wrap IntKind.i64 (IntKind.wrap IntKind.i64 (IntKind.wrap IntKind.i64 (IntKind.wrap IntKind.i64 (0 + 1) + 1) + 1) + 1) + 1)) == (↑c : Int), false), (strAt { data := #[48, 49, 50, 51, 52, 53, 54, 55, 56, 57, 97, 98, 99, 100, 101, 102] } (IntKind.wrap IntKind.i64 (IntKind.wrap IntKind.i64 (IntKind.wrap IntKind.i64 (IntKind.wrap IntKind.i64 (IntKind.wrap IntKind.i64 (IntKind.wrap IntKind.i64 (0 + 1) + 1) + 1) + 1) + 1) + 1)) == (↑c : Int), false), (strAt { data := #[48, 49, 50, 51, 52, 53, 54, 55, 56, 57, 97, 98, 99, 100, 101, 102] } (IntKind.wrap IntKind.i64 (IntKind.wrap IntKind.i64 (IntKind.wrap IntKind.i64 (IntKind.wrap IntKind.i64 (IntKind.wrap IntKind.i64 (IntKind.wrap IntKind.i64 (IntKind.wrap IntKind.i64 (0 + 1) + 1) + 1) + 1) + 1) + 1) + 1)) == (↑c : Int), false), (strAt { data := #[48, 49, 50, 51, 52, 53, 54, 55, 56, 57, 97, 98, 99, 100, 101, 102] } (IntKind.wrap IntKind.i64 (IntKind.wrap IntKind.i64 (IntKind.wrap IntKind.i64 (IntKind.wrap IntKind.i64 (IntKind.wrap IntKind.i64 (IntKind.wrap IntKind.i64 (IntKind.wrap IntKind.i64 (IntKind.wrap IntKind.i64 (0 + 1) + 1) + 1) + 1) + 1) + 1) + 1) + 1)) == (↑c : Int), false), (strAt { data := #[48, 49, 50, 51, 52, 53, 54, 55, 56, 57, 97, 98, 99, 100, 101, 102] } (IntKind.wrap IntKind.i64 (IntKind.wrap IntKind.i64 (IntKind.wrap IntKind.i64 (IntKind.wrap IntKind.i64 (IntKind.wrap IntKind.i64 (IntKind.wrap IntKind.i64 (IntKind.wrap IntKind.i64 (IntKind.wrap IntKind.i64 (IntKind.wrap IntKind.i64 (0 + 1) + 1) + 1) + 1) + 1) + 1) + 1) + 1) + 1)) == (↑c : Int), false), (strAt { data := #[48, 49, 50, 51, 52, 53, 54, 55, 56, 57, 97, 98, 99, 100, 101, 102] } (IntKind.wrap IntKind.i64 (IntKind.wrap IntKind.i64 (IntKind.wrap IntKind.i64 (IntKind.wrap IntKind.i64 (IntKind.wrap IntKind.i64 (IntKind.wrap IntKind.i64 (IntKind.wrap IntKind.i64 (IntKind.wrap IntKind.i64 (IntKind.wrap IntKind.i64 (IntKind.wrap IntKind.i64 (0 + 1) + 1) + 1) + 1) + 1) + 1) + 1) + 1) + 1) + 1)) == (↑c : Int), false), (strAt { data := #[48, 49, 50, 51, 52, 53, 54, 55, 56, 57, 97, 98, 99, 100, 101, 102] } (IntKind.wrap IntKind.i64 (IntKind.wrap IntKind.i64 (IntKind.wrap IntKind.i64 (IntKind.wrap IntKind.i64 (IntKind.wrap IntKind.i64 (IntKind.wrap IntKind.i64 (IntKind.wrap IntKind.i64 (IntKind.wrap IntKind.i64 (IntKind.wrap IntKind.i64 (IntKind.wrap IntKind.i64 (IntKind.wrap IntKind.i64 (0 + 1) + 1) + 1) + 1) + 1) + 1) + 1) + 1) + 1) + 1) + 1)) == (↑c : Int), false), (strAt { data := #[48, 49, 50, 51, 52, 53, 54, 55, 56, 57, 97, 98, 99, 100, 101, 102] } (IntKind.wrap IntKind.i64 (IntKind.wrap IntKind.i64 (IntKind.wrap IntKind.i64 (IntKind.wrap IntKind.i64 (IntKind.wrap IntKind.i64 (IntKind.wrap IntKind.i64 (IntKind.wrap IntKind.i64 (IntKind.wrap IntKind.i64 (IntKind.wrap IntKind.i64 (IntKind.wrap IntKind.i64 (IntKind.wrap IntKind.i64 (IntKind.wrap IntKind.i64 (0 + 1) + 1) + 1) + 1) + 1) + 1) + 1) + 1) + 1) + 1) + 1) + 1)) == (↑c : Int), false), (strAt { data := #[48, 49, 50, 51, 52, 53, 54, 55, 56, 57, 97, 98, 99, 100, 101, 102] } (IntKind.wrap IntKind.i64 (IntKind.wrap IntKind.i64 (IntKind.wrap IntKind.i64 (IntKind.wrap IntKind.i64 (IntKind.wrap IntKind.i64 (IntKind.wrap IntKind.i64 (IntKind.wrap IntKind.i64 (IntKind.wrap IntKind.i64 (IntKind.wrap IntKind.i64 (IntKind.wrap IntKind.i64 (IntKind.wrap IntKind.i64 (IntKind.wrap IntKind.i64 (IntKind.wrap IntKind.i64 (0 + 1) + 1) + 1) + 1) + 1) + 1) + 1) + 1) + 1) + 1) + 1) + 1) + 1)) == (↑c : Int), false), (strAt { data := #[48, 49, 50, 51, 52, 53, 54, 55, 56, 57, 97, 98, 99, 100, 101, 102] } (IntKind.wrap IntKind.i64 (IntKind.wrap IntKind.i64 (IntKind.wrap IntKind.i64 (IntKind.wrap IntKind.i64 (IntKind.wrap IntKind.i64 (IntKind.wrap IntKind.i64 (IntKind.wrap IntKind.i64 (IntKind.wrap IntKind.i64 (IntKind.wrap IntKind.i64 (IntKind.wrap IntKind.i64 (IntKind.wrap IntKind.i64 (IntKind.wrap IntKind.i64 (IntKind.wrap IntKind.i64 (IntKind.wrap IntKind.i64 (0 + 1) + 1) + 1) + 1) + 1) + 1) + 1) + 1) + 1) + 1) + 1) + 1) + 1) + 1)) == (↑c : Int), false), (strAt { data := #[48, 49, 50, 51, 52, 53, 54, 55, 56, 57, 97, 98, 99, 100, 101, 102] } (IntKind.wrap IntKind.i64 (IntKind.wrap IntKind.i64 (IntKind.wrap IntKind.i64 (IntKind.wrap IntKind.i64 (IntKind.wrap IntKind.i64 (IntKind.wrap IntKind.i64 (IntKind.wrap IntKind.i64 (IntKind.wrap IntKind.i64 (IntKind.wrap IntKind.i64 (IntKind.wrap IntKind.i64 (IntKind.wrap IntKind.i64 (IntKind.wrap IntKind.i64 (IntKind.wrap IntKind.i64 (IntKind.wrap IntKind.i64 (IntKind.wrap IntKind.i64 (0 + 1) + 1) + 1) + 1) + 1) + 1) + 1) + 1) + 1) + 1) + 1) + 1) + 1) + 1) + 1)) == (↑c : Int), true)] (dig_r15 c) (by kernel_rfl) h
noncomputable def dig_r16 (c : Nat) : AV := AV.int IntKind.i64 true (-1)
theorem dig_16 (c : Nat) (h : AllE [(strAt { data := #[48, 49, 50, 51, 52, 53, 54, 55, 56, 57, 97, 98, 99, 100, 101, 102] } 0 == (↑c : Int), false), (strAt { data := #[48, 49, 50, 51, 52, 53, 54, 55, 56, 57, 97, 98, 99, 100, 101, 102] } (IntKind.wrap IntKind.i64 (0 + 1)) == (↑c : Int), false), (strAt { data := #[48, 49, 50, 51, 52, 53, 54, 55, 56, 57, 97, 98, 99, 100, 101, 102] } (IntKind.wrap IntKind.i64 (IntKind.wrap IntKind.i64 (0 + 1) + 1)) == (↑c : Int), false), (strAt { data := #[48, 49, 50, 51, 52, 53, 54, 55, 56, 57, 97, 98, 99, 100, 101, 102] } (IntKind.wrap IntKind.i64 (IntKind.wrap IntKind.i64 (IntKind.wrap IntKind.i64 (0 + 1) + 1) + 1)) == (↑c : Int), false), (strAt { data := #[48, 49, 50, 51, 52, 53, 54, 55, 56, 57, 97, 98, 99, 100, 101, 102] } (IntKind.wrap IntKind.i64 (IntKind.wrap IntKind.i64 (IntKind.wrap IntKind.i64 (IntKind.wrap IntKind.i64 (0 + 1) + 1) + 1) + 1)) == (↑c : Int), false), (strAt { data := #[48, 49, 50, 51, 52, 53, 54, 55, 56, 57, 97, 98, 99, 100, 101, 102] } (IntKind.wrap IntKind.i64 (IntKind.wrap IntKind.i64 (IntKind.wrap IntKind.i64 (IntKind.wrap IntKind.i64 (IntKind.wrap IntKind.i64 (0 + 1) + 1) + 1) + 1) + 1)) == (↑c : Int), false), (strAt { data := #[48, 49, 50, 51, 52, 53, 54, 55, 56, 57, 97, 98, 99, 100, 101, 102] } (IntKind.wrap IntKind.i64 (IntKind.wrap IntKind.i64 (IntKind.wrap IntKind.i64 (IntKind.wrap IntKind.i64 (IntKind.wrap IntKind.i64 (IntKind.wrap IntKind.i64 (0 + 1) + 1) + 1) + 1) + 1) + 1)) == (↑c : Int), false), (strAt { data := #[48, 49, 50, 51, 52, 53, 54, 55, 56, 57, 97, 98, 99, 100, 101, 102] } (IntKind.wrap IntKind.i64 (IntKind.wrap IntKind.i64 (IntKind.wrap IntKind.i64 (IntKind.wrap IntKind.i64 (IntKind.wrap IntKind.i64 (IntKind.wrap IntKind.i64 (IntKind.wrap IntKind.i64 (0 + 1) + 1) + 1) + 1) + 1) + 1) + 1)) == (↑c : Int), false), (strAt { data := #[48, 49, 50, 51, 52, 53, 54, 55, 56, 57, 97, 98, 99, 100, 101, 102] } (IntKind.wrap IntKind.i64 (IntKind.wrap IntKind.i64 (IntKind.wrap IntKind.i64 (IntKind.wrap IntKind.i64 (IntKind.wrap IntKind.i64 (IntKind.wrap IntKind.i64 (IntKind.wrap IntKind.i64 (IntKind.wrap IntKind.i64 (0 + 1) + 1) + 1) + 1) + 1) + 1) + 1) + 1)) == (↑c : Int), false), (strAt { data := #[48, 49, 50, 51, 52, 53, 54, 55, 56, 57, 97, 98, 99, 100, 101, 102] } (IntKind.wrap IntKind.i64 (IntKind.wrap IntKind.i64 (IntKind.wrap IntKind.i64 (IntKind.wrap IntKind.i64 (IntKind.wrap IntKind.i64 (IntKind.wrap IntKind.i64 (IntKind.wrap IntKind.i64 (IntKind.wrap IntKind.i64 (IntKind.wrap IntKind.i64 (0 + 1) + 1) + 1) + 1) + 1) + 1) + 1) + 1) + 1)) == (↑c : Int), false), (strAt { data := #[48, 49, 50, 51, 52, 53, 54, 55, 56, 57, 97, 98, 99, 100, 101, 102] } (IntKind.wrap IntKind.i64 (IntKind.wrap IntKind.i64 (IntKind.wrap IntKind.i64 (IntKind.wrap IntKind.i64 (IntKind.wrap IntKind.i64 (IntKind.wrap IntKind.i64 (IntKind.wrap IntKind.i64 (IntKind.wrap IntKind.i64 (IntKind.wrap IntKind.i64 (IntKind.wrap IntKind.i64 (0 + 1) + 1) + 1) + 1) + 1) + 1) + 1) + 1) + 1) + 1)) == (↑c : Int), false), (strAt { data := #[48, 49, 50, 51, 52, 53, 54, 55, 56, 57, 97, 98, 99, 100, 101, 102] } (IntKind.wrap IntKind.i64 (IntKind.wrap IntKind.i64 (IntKind.wrap IntKind.i64 (IntKind.wrap IntKind.i64 (IntKind.wrap IntKind.i64 (IntKind.wrap IntKind.i64 (IntKind.wrap IntKind.i64 (IntKind.wrap IntKind.i64 (IntKind.wrap IntKind.i64 (IntKind.wrap IntKind.i64 (IntKind.wrap IntKind.i64 (0 + 1) + 1) + 1) + 1) + 1) + 1) + 1) + 1) + 1) + 1) + 1)) == (↑c : Int), false), (strAt { data := #[48, 49, 50, 51, 52, 53, 54, 55, 56, 57, 97, 98, 99, 100, 101, 102] } (IntKind.wrap IntKind.i64 (IntKind.wrap IntKind.i64 (IntKind.wrap IntKind.i64 (IntKind.wrap IntKind.i64 (IntKind.wrap IntKind.i64 (IntKind.wrap IntKind.i64 (IntKind.wrap IntKind.i64 (IntKind.wrap IntKind.i64 (IntKind.wrap IntKind.i64 (IntKind.wrap IntKind.i64 (IntKind.wrap IntKind.i64 (IntKind.wrap IntKind.i64 (0 + 1) + 1) + 1) + 1) + 1) + 1) + 1) + 1) + 1) + 1) + 1) + 1)) == (↑c : Int), false), (strAt { data := #[48, 49, 50, 51, 52, 53, 54, 55, 56, 57, 97, 98, 99, 100, 101, 102] } (IntKind.wrap IntKind.i64 (IntKind.wrap IntKind.i64 (IntKind.wrap IntKind.i64 (IntKind.wrap IntKind.i64 (IntKind.wrap IntKind.i64 (IntKind.wrap IntKind.i64 (IntKind.wrap IntKind.i64 (IntKind.wrap IntKind.i64 (IntKind.wrap IntKind.i64 (IntKind.wrap IntKind.i64 (IntKind.wrap IntKind.i64 (IntKind.wrap IntKind.i64 (IntKind.wrap IntKind.i64 (0 + 1) + 1) + 1) + 1) + 1) + 1) + 1) + 1) + 1) + 1) + 1) + 1) + 1)) == (↑c : Int), false), (strAt { data := #[48, 49, 50, 51, 52, 53, 54, 55, 56, 57, 97, 98, 99, 100, 101, 102] } (IntKind.wrap IntKind.i64 (IntKind.wrap IntKind.i64 (IntKind.wrap IntKind.i64 (IntKind.wrap IntKind.i64 (IntKind.wrap IntKind.i64 (IntKind.wrap IntKind.i64 (IntKind.wrap IntKind.i64 (IntKind.wrap IntKind.i64 (IntKind.wrap IntKind.i64 (IntKind.wrap IntKind.i64 (IntKind.wrap IntKind.i64 (IntKind.wrap IntKind.i64 (IntKind.wrap IntKind.i64 (IntKind.wrap IntKind.i64 (0 + 1) + 1) + 1) + 1) + 1) + 1) + 1) + 1) + 1) + 1) + 1) + 1) + 1) + 1)) == (↑c : Int), false), (strAt { data := #[48, 49, 50, 51, 52, 53, 54, 55, 56, 57, 97, 98, 99, 100, 101, 102] } (IntKind.wrap IntKind.i64 (IntKind.wrap IntKind.i64 (IntKind.wrap IntKind.i64 (IntKind.wrap IntKind.i64 (IntKind.wrap IntKind.i64 (IntKind.wrap IntKind.i64 (IntKind.wrap IntKind.i64 (IntKind.wrap IntKind.i64 (IntKind.wrap IntKind.i64 (IntKind.wrap IntKind.i64 (IntKind.wrap IntKind.i64 (IntKind.wrap IntKind.i64 (IntKind.wrap IntKind.i64 (IntKind.wrap IntKind.i64 (IntKind.wrap IntKind.i64 (0 + 1) + 1) + 1) + 1) + 1) + 1) + 1) + 1) + 1) + 1) + 1) + 1) + 1) + 1) + 1)) == (↑c : Int), false)]) : Is (evCall (mkEnv noRows []) 60 33 [.int .u8 false (c : Int)] ⟨[], [false, false, false, false, false, false, false, false, false, false, false, false, false, false, false, false], allW⟩ (fun v _ => v = dig_r16 c)) := ev_eq [(strAt { data := #[48, 49, 50, 51, 52, 53, 54, 55, 56, 57, 97, 98, 99, 100, 101, 102] } 0 == (↑c : Int), false), (strAt { data := #[48, 49, 50, 51, 52, 53, 54, 55, 56, 57, 97, 98, 99, 100, 101, 102] } (IntKind.wrap IntKind.i64 (0 + 1)) == (↑c : Int), false), (strAt { data := #[48, 49, 50, 51, 52, 53, 54, 55, 56, 57, 97, 98, 99, 100, 101, 102] } (IntKind.wrap IntKind.i64 (IntKind.wrap IntKind.i64 (0 + 1) + 1)) == (↑c : Int), false), (strAt { data := #[48, 49, 50, 51, 52, 53, 54, 55, 56, 57, 97, 98, 99, 100, 101, 102] } (IntKind.wrap IntKind.i64 (IntKind.wrap IntKind.i64 (IntKind.wrap IntKind.i64 (0 + 1) + 1) + 1)) == (↑c : Int), false), (strAt { data := #[48, 49, 50, 51, 52, 53, 54, 55, 56, 57, 97, 98, 99, 100, 101, 102] } (IntKind.wrap IntKind.i64 (IntKind.wrap IntKind.i64 (IntKind.wrap IntKind.i64 (IntKind.wrap IntKind.i64 (0 + 1) + 1) + 1) + 1)) == (↑c : Int), false), (strAt { data := #[48, 49, 50, 51, 52, 53, 54, 55, 56, 57, 97, 98, 99, 100, 101, 102] } (IntKind.wrap IntKind.i64 (IntKind.wrap IntKind.i64 (IntKind.wrap IntKind.i64 (IntKind.wrap IntKind.i64 (IntKind.wrap IntKind.i64 (0 + 1) + 1) + 1) + 1) + 1)) == (↑c : Int), false), (strAt { data := #[48, 49, 50, 51, 52, 53, 54, 55, 56, 57, 97, 98, 99, 100, 101, 102] } (IntKind.wrap IntKind.i64 (IntKind.wrap IntKind.i64 (IntKind.wrap IntKind.i64 (IntKind.wrap IntKind.i64 (IntKind.wrap IntKind.i64 (IntKind.wrap IntKind.i64 (0 + 1) + 1) + 1) + 1) + 1) + 1)) == (↑c : Int), false), (strAt { data := #[48, 49, 50, 51, 52, 53, 54, 55, 56, 57, 97, 98, 99, 100, 101, 102] } (IntKind.wrap IntKind.i64 (IntKind.wrap IntKind.i64 (IntKind.wrap IntKind.i64 (IntKind.wrap IntKind.i64 (IntKind.wrap IntKind.i64 (IntKind.wrap IntKind.i64 (IntKind.wrap IntKind.i64 (0 + 1) + 1) + 1) + 1) + 1) + 1) + 1)) == (↑c : Int), false), (strAt { data := #[48, 49, 50, 51, 52, 53, 54, 55, 56, 57, 97, 98, 99, 100, 101, 102] } (IntKind.wrap IntKind.i64 (IntKind.wrap IntKind.i64 (IntKind.wrap IntKind.i64 (IntKind.wrap IntKind.i64 (IntKind.wrap IntKind.i64 (IntKind.wrap IntKind.i64 (IntKind.wrap IntKind.i64 (IntKind.wrap IntKind.i64 (0 + 1) + 1) + 1) + 1) + 1) + 1) + 1) + 1)) == (↑c : Int), false), (strAt { data := #[48, 49, 50, 51, 52, 53, 54, 55, 56, 57, 97, 98, 99, 100, 101, 102] } (IntKind.wrap IntKind.i64 (IntKind.wrap IntKind.i64 (IntKind.wrap IntKind.i64 (IntKind.wrap IntKind.i64 (IntKind.wrap IntKind.i64 (IntKind.wrap IntKind.i64 (IntKind.wrap IntKind.i64 (IntKind.wrap IntKind.i64 (IntKind.wrap IntKind.i64 (0 + 1) + 1) + 1) + 1) + 1) + 1) + 1) + 1) + 1)) == (↑c : Int), false), (strAt { data := #[48, 49, 50, 51, 52, 53, 54, 55, 56, 57, 97, 98, 99, 100, 101, 102] } (IntKind.wrap IntKind.i64 (IntKind.wrap IntKind.i64 (IntKind.wrap IntKind.i64 (IntKind.wrap IntKind.i64 (IntKind.wrap IntKind.i64 (IntKind.wrap IntKind.i64 (IntKind.wrap IntKind.i64 (IntKind.wrap IntKind.i64 (IntKind.wrap IntKind.i64 (IntKind.wrap IntKind.i64 (0 + 1) + 1) + 1) + 1) + 1) + 1) + 1) + 1) + 1) + 1)) == (↑c : Int), false), (strAt { data := #[48, 49, 50, 51, 52, 53, 54, 55, 56, 57, 97, 98, 99, 100, 101, 102] } (IntKind.wrap IntKind.i64 (IntKind.wrap IntKind.i64 (IntKind.wrap IntKind.i64 (IntKind.wrap IntKind.i64 (IntKind.wrap IntKind.i64 (IntKind.wrap IntKind.i64 (IntKind.wrap IntKind.i64 (IntKind.wrap IntKind.i64 (IntKind.wrap IntKind.i64 (IntKind.wrap IntKind.i64 (IntKind.wrap IntKind.i64 (0 + 1) + 1) + 1) + 1) + 1) + 1) + 1) + 1) + 1) + 1) + 1)) == (↑c : Int), false), (strAt { data := #[48, 49, 50, 51, 52, 53, 54, 55, 56, 57, 97, 98, 99, 100, 101, 102] } (IntKind.wrap IntKind.i64 (IntKind.wrap IntKind.i64 (IntKind.wrap IntKind.i64 (IntKind.wrap IntKind.i64 (IntKind.wrap IntKind.i64 (IntKind.wrap IntKind.i64 (IntKind.wrap IntKind.i64 (IntKind.wrap IntKind.i64 (IntKind.wrap IntKind.i64 (IntKind.wrap IntKind.i64 (IntKind.wrap IntKind.i64 (IntKind.wrap IntKind.i64 (0 + 1) + 1) + 1) + 1) + 1) + 1) + 1) + 1) + 1) + 1) + 1) + 1)) == (↑c : Int), false), (strAt { data := #[48, 49, 50, 51, 52, 53, 54, 55, 56, 57, 97, 98, 99, 100, 101, 102] } (IntKind.wrap IntKind.i64 (IntKind.wrap IntKind.i64 (IntKind.wrap IntKind.i64 (IntKind.wrap IntKind.i64 (IntKind.wrap IntKind.i64 (IntKind.wrap IntKind.i64 (IntKind.wrap IntKind.i64 (IntKind.wrap IntKind.i64 (IntKind.wrap IntKind.i64 (IntKind.wrap IntKind.i64 (IntKind.wrap IntKind.i64 (IntKind.wrap IntKind.i64 (IntKind.wrap IntKind.i64 (0 + 1) + 1) + 1) + 1) + 1) + 1) + 1) + 1) + 1) + 1) + 1) + 1) + 1)) == (↑c : Int), false), (strAt { data := #[48, 49, 50, 51, 52, 53, 54, 55, 56, 57, 97, 98, 99, 100, 101, 102] } (IntKind.wrap IntKind.i64 (IntKind.wrap IntKind.i64 (IntKind.wrap IntKind.i64 (IntKind.wrap IntKind.i64 (IntKind.wrap IntKind.i64 (IntKind.wrap IntKind.i64 (IntKind.wrap IntKind.i64 (IntKind.wrap IntKind.i64 (IntKind.wrap IntKind.i64 (IntKind.wrap IntKind.i64 (IntKind.wrap IntKind.i64 (IntKind.wrap IntKind.i64 (IntKind.wrap IntKind.i64 (IntKind.wrap IntKind.i64 (0 + 1) + 1) + 1) + 1) + 1) + 1) + 1) + 1) + 1) + 1) + 1) + 1) + 1) + 1)) == (↑c : Int), false), (strAt { data := #[48, 49, 50, 51, 52, 53, 54, 55, 56, 57, 97, 98, 99, 100, 101, 102] } (IntKind.wrap IntKind.i64 (IntKind.wrap IntKind.i64 (IntKind.wrap IntKind.i64 (IntKind.wrap IntKind.i64 (IntKind.wrap IntKind.i64 (IntKind.wrap IntKind.i64 (IntKind.wrap IntKind.i64 (IntKind.wrap IntKind.i64 (IntKind.wrap IntKind.i64 (IntKind.wrap IntKind.i64 (IntKind.wrap IntKind.i64 (IntKind.wrap IntKind.i64 (IntKind.wrap IntKind.i64 (IntKind.wrap IntKind.i64 (IntKind.wrap IntKind.i64 (0 + 1) + 1) + 1) + 1) + 1) + 1) + 1) + 1) + 1) + 1) + 1) + 1) + 1) + 1) + 1)) == (↑c : Int), false)] (dig_r16 c) (by kernel_rfl) h
theorem dig_any (c : Nat) (hc : c < 256) (w : World) : Calls Tryd.prog 33 #[.int .u8 (c : Int)] w fun e w' => e = .returned (.int .i64 (hexI c)) ∧ Below w.heap.size w w' := by
  rcases h0 : (strAt { data := #[48, 49, 50, 51, 52, 53, 54, 55, 56, 57, 97, 98, 99, 100, 101, 102] } 0 == (↑c : Int)) with _ | _
  · rcases h1 : (strAt { data := #[48, 49, 50, 51, 52, 53, 54, 55, 56, 57, 97, 98, 99, 100, 101, 102] } (IntKind.wrap IntKind.i64 (0 + 1)) == (↑c : Int)) with _ | _
    · rcases h2 : (strAt { data := #[48, 49, 50, 51, 52, 53, 54, 55, 56, 57, 97, 98, 99, 100, 101, 102] } (IntKind.wrap IntKind.i64 (IntKind.wrap IntKind.i64 (0 + 1) + 1)) == (↑c : Int)) with _ | _
      · rcases h3 : (strAt { data := #[48, 49, 50, 51, 52, 53, 54, 55, 56, 57, 97, 98, 99, 100, 101, 102] } (IntKind.wrap IntKind.i64 (IntKind.wrap IntKind.i64 (IntKind.wrap IntKind.i64 (0 + 1) + 1) + 1)) == (↑c : Int)) with _ | _
        · rcases h4 : (strAt { data := #[48, 49, 50, 51, 52, 53, 54, 55, 56, 57, 97, 98, 99, 100, 101, 102] } (IntKind.wrap IntKind.i64 (IntKind.wrap IntKind.i64 (IntKind.wrap IntKind.i64 (IntKind.wrap IntKind.i64 (0 + 1) + 1) + 1) + 1)) == (↑c : Int)) with _ | _
          · rcases h5 : (strAt { data := #[48, 49, 50, 51, 52, 53, 54, 55, 56, 57, 97, 98, 99, 100, 101, 102] } (IntKind.wrap IntKind.i64 (IntKind.wrap IntKind.i64 (IntKind.wrap IntKind.i64 (IntKind.wrap IntKind.i64 (IntKind.wrap IntKind.i64 (0 + 1) + 1) + 1) + 1) + 1)) == (↑c : Int)) with _ | _
            · rcases h6 : (strAt { data := #[48, 49, 50, 51, 52, 53, 54, 55, 56, 57, 97, 98, 99, 100, 101, 102] } (IntKind.wrap IntKind.i64 (IntKind.wrap IntKind.i64 (IntKind.wrap IntKind.i64 (IntKind.wrap IntKind.i64 (IntKind.wrap IntKind.i64 (IntKind.wrap IntKind.i64 (0 + 1) + 1) + 1) + 1) + 1) + 1)) == (↑c : Int)) with _ | _
              · rcases h7 : (strAt { data := #[48, 49, 50, 51, 52, 53, 54, 55, 56, 57, 97, 98, 99, 100, 101, 102] } (IntKind.wrap IntKind.i64 (IntKind.wrap IntKind.i64 (IntKind.wrap IntKind.i64 (IntKind.wrap IntKind.i64 (IntKind.wrap IntKind.i64 (IntKind.wrap IntKind.i64 (IntKind.wrap IntKind.i64 (0 + 1) + 1) + 1) + 1) + 1) + 1) + 1)) == (↑c : Int)) with _ | _
                · rcases h8 : (strAt { data := #[48, 49, 50, 51, 52, 53, 54, 55, 56, 57, 97, 98, 99, 100, 101, 102] } (IntKind.wrap IntKind.i64 (IntKind.wrap IntKind.i64 (IntKind.wrap IntKind.i64 (IntKind.wrap IntKind.i64 (IntKind.wrap IntKind.i64 (IntKind.wrap IntKind.i64 (IntKind.wrap IntKind.i64 (IntKind.wrap IntKind.i64 (0 + 1) + 1) + 1) + 1) + 1) + 1) + 1) + 1)) == (↑c : Int)) with _ | _
                  · rcases h9 : (strAt { data := #[48, 49, 50, 51, 52, 53, 54, 55, 56, 57, 97, 98, 99, 100, 101, 102] } (IntKind.wrap IntKind.i64 (IntKind.wrap IntKind.i64 (IntKind.wrap IntKind.i64 (IntKind.wrap IntKind.i64 (IntKind.wrap IntKind.i64 (IntKind.wrap IntKind.i64 (IntKind.wrap IntKind.i64 (IntKind.wrap IntKind.i64 (IntKind.wrap IntKind.i64 (0 + 1) + 1) + 1) + 1) + 1) + 1) + 1) + 1) + 1)) == (↑c : Int)) with _ | _
                    · rcases h10 : (strAt { data := #[48, 49, 50, 51, 52, 53, 54, 55, 56, 57, 97, 98, 99, 100, 101, 102] } (IntKind.wrap IntKind.i64 (IntKind.wrap IntKind.i64 (IntKind.wrap IntKind.i64 (IntKind.wrap IntKind.i64 (IntKind.wrap IntKind.i64 (IntKind.wrap IntKind.i64 (IntKind.wrap IntKind.i64 (IntKind.wrap IntKind.i64 (IntKind.wrap IntKind.i64 (IntKind.wrap IntKind.i64 (0 + 1) + 1) + 1) + 1) + 1) + 1) + 1) + 1) + 1) + 1)) == (↑c : Int)) with _ | _
                      · rcases h11 : (strAt { data := #[48, 49, 50, 51, 52, 53, 54, 55, 56, 57, 97, 98, 99, 100, 101, 102] } (IntKind.wrap IntKind.i64 (IntKind.wrap IntKind.i64 (IntKind.wrap IntKind.i64 (IntKind.wrap IntKind.i64 (IntKind.wrap IntKind.i64 (IntKind.wrap IntKind.i64 (IntKind.wrap IntKind.i64 (IntKind.wrap IntKind.i64 (IntKind.wrap IntKind.i64 (IntKind.wrap IntKind.i64 (IntKind.wrap IntKind.i64 (0 + 1) + 1) + 1) + 1) + 1) + 1) + 1) + 1) + 1) + 1) + 1)) == (↑c : Int)) with _ | _
                        · rcases h12 : (strAt { data := #[48, 49, 50, 51, 52, 53, 54, 55, 56, 57, 97, 98, 99, 100, 101, 102] } (IntKind.wrap IntKind.i64 (IntKind.wrap IntKind.i64 (IntKind.wrap IntKind.i64 (IntKind.wrap IntKind.i64 (IntKind.wrap IntKind.i64 (IntKind.wrap IntKind.i64 (IntKind.wrap IntKind.i64 (IntKind.wrap IntKind.i64 (IntKind.wrap IntKind.i64 (IntKind.wrap IntKind.i64 (IntKind.wrap IntKind.i64 (IntKind.wrap IntKind.i64 (0 + 1) + 1) + 1) + 1) + 1) + 1) + 1) + 1) + 1) + 1) + 1) + 1)) == (↑c : Int)) with _ | _
                          · rcases h13 : (strAt { data := #[48, 49, 50, 51, 52, 53, 54, 55, 56, 57, 97, 98, 99, 100, 101, 102] } (IntKind.wrap IntKind.i64 (IntKind.wrap IntKind.i64 (IntKind.wrap IntKind.i64 (IntKind.wrap IntKind.i64 (IntKind.wrap IntKind.i64 (IntKind.wrap IntKind.i64 (IntKind.wrap IntKind.i64 (IntKind.wrap IntKind.i64 (IntKind.wrap IntKind.i64 (IntKind.wrap IntKind.i64 (IntKind.wrap IntKind.i64 (IntKind.wrap IntKind.i64 (IntKind.wrap IntKind.i64 (0 + 1) + 1) + 1) + 1) + 1) + 1) + 1) + 1) + 1) + 1) + 1) + 1) + 1)) == (↑c : Int)) with _ | _
                            · rcases h14 : (strAt { data := #[48, 49, 50, 51, 52, 53, 54, 55, 56, 57, 97, 98, 99, 100, 101, 102] } (IntKind.wrap IntKind.i64 (IntKind.wrap IntKind.i64 (IntKind.wrap IntKind.i64 (IntKind.wrap IntKind.i64 (IntKind.wrap IntKind.i64 (IntKind.wrap IntKind.i64 (IntKind.wrap IntKind.i64 (IntKind.wrap IntKind.i64 (IntKind.wrap IntKind.i64 (IntKind.wrap IntKind.i64 (IntKind.wrap IntKind.i64 (IntKind.wrap IntKind.i64 (IntKind.wrap IntKind.i64 (IntKind.wrap IntKind.i64 (0 + 1) + 1) + 1) + 1) + 1) + 1) + 1) + 1) + 1) + 1) + 1) + 1) + 1) + 1)) == (↑c : Int)) with _ | _
                              · rcases h15 : (strAt { data := #[48, 49, 50, 51, 52, 53, 54, 55, 56, 57, 97, 98, 99, 100, 101, 102] } (IntKind.wrap IntKind.i64 (IntKind.wrap IntKind.i64 (IntKind.wrap IntKind.i64 (IntKind.wrap IntKind.i64 (IntKind.wrap IntKind.i64 (IntKind.wrap IntKind.i64 (IntKind.wrap IntKind.i64 (IntKind.wrap IntKind.i64 (IntKind.wrap IntKind.i64 (IntKind.wrap IntKind.i64 (IntKind.wrap IntKind.i64 (IntKind.wrap IntKind.i64 (IntKind.wrap IntKind.i64 (IntKind.wrap IntKind.i64 (IntKind.wrap IntKind.i64 (0 + 1) + 1) + 1) + 1) + 1) + 1) + 1) + 1) + 1) + 1) + 1) + 1) + 1) + 1) + 1)) == (↑c : Int)) with _ | _
                                · have hV : (dig_r16 c).told? = some (.int .i64 (hexI c)) := congrArg some (by unfold hexI; have g0 : ¬ ((48 : Int) = (c : Int)) := ne_of_beq_false h0; have g1 : ¬ ((49 : Int) = (c : Int)) := ne_of_beq_false h1; have g2 : ¬ ((50 : Int) = (c : Int)) := ne_of_beq_false h2; have g3 : ¬ ((51 : Int) = (c : Int)) := ne_of_beq_false h3; have g4 : ¬ ((52 : Int) = (c : Int)) := ne_of_beq_false h4; have g5 : ¬ ((53 : Int) = (c : Int)) := ne_of_beq_false h5; have g6 : ¬ ((54 : Int) = (c : Int)) := ne_of_beq_false h6; have g7 : ¬ ((55 : Int) = (c : Int)) := ne_of_beq_false h7; have g8 : ¬ ((56 : Int) = (c : Int)) := ne_of_beq_false h8; have g9 : ¬ ((57 : Int) = (c : Int)) := ne_of_beq_false h9; have g10 : ¬ ((97 : Int) = (c : Int)) := ne_of_beq_false h10; have g11 : ¬ ((98 : Int) = (c : Int)) := ne_of_beq_false h11; have g12 : ¬ ((99 : Int) = (c : Int)) := ne_of_beq_false h12; have g13 : ¬ ((100 : Int) = (c : Int)) := ne_of_beq_false h13; have g14 : ¬ ((101 : Int) = (c : Int)) := ne_of_beq_false h14; have g15 : ¬ ((102 : Int) = (c : Int)) := ne_of_beq_false h15; rw [if_neg (by omega), if_neg (by omega)])
                                  exact ev_callsI E0_ok 60 (dig_16 c (allE_cons h0 (allE_cons h1 (allE_cons h2 (allE_cons h3 (allE_cons h4 (allE_cons h5 (allE_cons h6 (allE_cons h7 (allE_cons h8 (allE_cons h9 (allE_cons h10 (allE_cons h11 (allE_cons h12 (allE_cons h13 (allE_cons h14 (allE_cons h15 allE_nil))))))))))))))))) hV (.cons .int .nil) rfl w
                                · have hV : (dig_r15 c).told? = some (.int .i64 (hexI c)) := congrArg some (by unfold hexI; have g0 : ¬ ((48 : Int) = (c : Int)) := ne_of_beq_false h0; have g1 : ¬ ((49 : Int) = (c : Int)) := ne_of_beq_false h1; have g2 : ¬ ((50 : Int) = (c : Int)) := ne_of_beq_false h2; have g3 : ¬ ((51 : Int) = (c : Int)) := ne_of_beq_false h3; have g4 : ¬ ((52 : Int) = (c : Int)) := ne_of_beq_false h4; have g5 : ¬ ((53 : Int) = (c : Int)) := ne_of_beq_false h5; have g6 : ¬ ((54 : Int) = (c : Int)) := ne_of_beq_false h6; have g7 : ¬ ((55 : Int) = (c : Int)) := ne_of_beq_false h7; have g8 : ¬ ((56 : Int) = (c : Int)) := ne_of_beq_false h8; have g9 : ¬ ((57 : Int) = (c : Int)) := ne_of_beq_false h9; have g10 : ¬ ((97 : Int) = (c : Int)) := ne_of_beq_false h10; have g11 : ¬ ((98 : Int) = (c : Int)) := ne_of_beq_false h11; have g12 : ¬ ((99 : Int) = (c : Int)) := ne_of_beq_false h12; have g13 : ¬ ((100 : Int) = (c : Int)) := ne_of_beq_false h13; have g14 : ¬ ((101 : Int) = (c : Int)) := ne_of_beq_false h14; have g15 : ((102 : Int) = (c : Int)) := eq_of_beq h15; rw [if_neg (by omega), if_pos (by omega)]; show Value.int .i64 15 = Value.int _ _; (congr 1 <;> omega))
                                  exact ev_callsI E0_ok 60 (dig_15 c (allE_cons h0 (allE_cons h1 (allE_cons h2 (allE_cons h3 (allE_cons h4 (allE_cons h5 (allE_cons h6 (allE_cons h7 (allE_cons h8 (allE_cons h9 (allE_cons h10 (allE_cons h11 (allE_cons h12 (allE_cons h13 (allE_cons h14 (allE_cons h15 allE_nil))))))))))))))))) hV (.cons .int .nil) rfl w
                              · have hV : (dig_r14 c).told? = some (.int .i64 (hexI c)) := congrArg some (by unfold hexI; have g0 : ¬ ((48 : Int) = (c : Int)) := ne_of_beq_false h0; have g1 : ¬ ((49 : Int) = (c : Int)) := ne_of_beq_false h1; have g2 : ¬ ((50 : Int) = (c : Int)) := ne_of_beq_false h2; have g3 : ¬ ((51 : Int) = (c : Int)) := ne_of_beq_false h3; have g4 : ¬ ((52 : Int) = (c : Int)) := ne_of_beq_false h4; have g5 : ¬ ((53 : Int) = (c : Int)) := ne_of_beq_false h5; have g6 : ¬ ((54 : Int) = (c : Int)) := ne_of_beq_false h6; have g7 : ¬ ((55 : Int) = (c : Int)) := ne_of_beq_false h7; have g8 : ¬ ((56 : Int) = (c : Int)) := ne_of_beq_false h8; have g9 : ¬ ((57 : Int) = (c : Int)) := ne_of_beq_false h9; have g10 : ¬ ((97 : Int) = (c : Int)) := ne_of_beq_false h10; have g11 : ¬ ((98 : Int) = (c : Int)) := ne_of_beq_false h11; have g12 : ¬ ((99 : Int) = (c : Int)) := ne_of_beq_false h12; have g13 : ¬ ((100 : Int) = (c : Int)) := ne_of_beq_false h13; have g14 : ((101 : Int) = (c : Int)) := eq_of_beq h14; rw [if_neg (by omega), if_pos (by omega)]; show Value.int .i64 14 = Value.int _ _; (congr 1 <;> omega))
                                exact ev_callsI E0_ok 60 (dig_14 c (allE_cons h0 (allE_cons h1 (allE_cons h2 (allE_cons h3 (allE_cons h4 (allE_cons h5 (allE_cons h6 (allE_cons h7 (allE_cons h8 (allE_cons h9 (allE_cons h10 (allE_cons h11 (allE_cons h12 (allE_cons h13 (allE_cons h14 allE_nil)))))))))))))))) hV (.cons .int .nil) rfl w
                            · have hV : (dig_r13 c).told? = some (.int .i64 (hexI c)) := congrArg some (by unfold hexI; have g0 : ¬ ((48 : Int) = (c : Int)) := ne_of_beq_false h0; have g1 : ¬ ((49 : Int) = (c : Int)) := ne_of_beq_false h1; have g2 : ¬ ((50 : Int) = (c : Int)) := ne_of_beq_false h2; have g3 : ¬ ((51 : Int) = (c : Int)) := ne_of_beq_false h3; have g4 : ¬ ((52 : Int) = (c : Int)) := ne_of_beq_false h4; have g5 : ¬ ((53 : Int) = (c : Int)) := ne_of_beq_false h5; have g6 : ¬ ((54 : Int) = (c : Int)) := ne_of_beq_false h6; have g7 : ¬ ((55 : Int) = (c : Int)) := ne_of_beq_false h7; have g8 : ¬ ((56 : Int) = (c : Int)) := ne_of_beq_false h8; have g9 : ¬ ((57 : Int) = (c : Int)) := ne_of_beq_false h9; have g10 : ¬ ((97 : Int) = (c : Int)) := ne_of_beq_false h10; have g11 : ¬ ((98 : Int) = (c : Int)) := ne_of_beq_false h11; have g12 : ¬ ((99 : Int) = (c : Int)) := ne_of_beq_false h12; have g13 : ((100 : Int) = (c : Int)) := eq_of_beq h13; rw [if_neg (by omega), if_pos (by omega)]; show Value.int .i64 13 = Value.int _ _; (congr 1 <;> omega))
                              exact ev_callsI E0_ok 60 (dig_13 c (allE_cons h0 (allE_cons h1 (allE_cons h2 (allE_cons h3 (allE_cons h4 (allE_cons h5 (allE_cons h6 (allE_cons h7 (allE_cons h8 (allE_cons h9 (allE_cons h10 (allE_cons h11 (allE_cons h12 (allE_cons h13 allE_nil))))))))))))))) hV (.cons .int .nil) rfl w
                          · have hV : (dig_r12 c).told? = some (.int .i64 (hexI c)) := congrArg some (by unfold hexI; have g0 : ¬ ((48 : Int) = (c : Int)) := ne_of_beq_false h0; have g1 : ¬ ((49 : Int) = (c : Int)) := ne_of_beq_false h1; have g2 : ¬ ((50 : Int) = (c : Int)) := ne_of_beq_false h2; have g3 : ¬ ((51 : Int) = (c : Int)) := ne_of_beq_false h3; have g4 : ¬ ((52 : Int) = (c : Int)) := ne_of_beq_false h4; have g5 : ¬ ((53 : Int) = (c : Int)) := ne_of_beq_false h5; have g6 : ¬ ((54 : Int) = (c : Int)) := ne_of_beq_false h6; have g7 : ¬ ((55 : Int) = (c : Int)) := ne_of_beq_false h7; have g8 : ¬ ((56 : Int) = (c : Int)) := ne_of_beq_false h8; have g9 : ¬ ((57 : Int) = (c : Int)) := ne_of_beq_false h9; have g10 : ¬ ((97 : Int) = (c : Int)) := ne_of_beq_false h10; have g11 : ¬ ((98 : Int) = (c : Int)) := ne_of_beq_false h11; have g12 : ((99 : Int) = (c : Int)) := eq_of_beq h12; rw [if_neg (by omega), if_pos (by omega)]; show Value.int .i64 12 = Value.int _ _; (congr 1 <;> omega))
                            exact ev_callsI E0_ok 60 (dig_12 c (allE_cons h0 (allE_cons h1 (allE_cons h2 (allE_cons h3 (allE_cons h4 (allE_cons h5 (allE_cons h6 (allE_cons h7 (allE_cons h8 (allE_cons h9 (allE_cons h10 (allE_cons h11 (allE_cons h12 allE_nil)))))))))))))) hV (.cons .int .nil) rfl w
                        · have hV : (dig_r11 c).told? = some (.int .i64 (hexI c)) := congrArg some (by unfold hexI; have g0 : ¬ ((48 : Int) = (c : Int)) := ne_of_beq_false h0; have g1 : ¬ ((49 : Int) = (c : Int)) := ne_of_beq_false h1; have g2 : ¬ ((50 : Int) = (c : Int)) := ne_of_beq_false h2; have g3 : ¬ ((51 : Int) = (c : Int)) := ne_of_beq_false h3; have g4 : ¬ ((52 : Int) = (c : Int)) := ne_of_beq_false h4; have g5 : ¬ ((53 : Int) = (c : Int)) := ne_of_beq_false h5; have g6 : ¬ ((54 : Int) = (c : Int)) := ne_of_beq_false h6; have g7 : ¬ ((55 : Int) = (c : Int)) := ne_of_beq_false h7; have g8 : ¬ ((56 : Int) = (c : Int)) := ne_of_beq_false h8; have g9 : ¬ ((57 : Int) = (c : Int)) := ne_of_beq_false h9; have g10 : ¬ ((97 : Int) = (c : Int)) := ne_of_beq_false h10; have g11 : ((98 : Int) = (c : Int)) := eq_of_beq h11; rw [if_neg (by omega), if_pos (by omega)]; show Value.int .i64 11 = Value.int _ _; (congr 1 <;> omega))
                          exact ev_callsI E0_ok 60 (dig_11 c (allE_cons h0 (allE_cons h1 (allE_cons h2 (allE_cons h3 (allE_cons h4 (allE_cons h5 (allE_cons h6 (allE_cons h7 (allE_cons h8 (allE_cons h9 (allE_cons h10 (allE_cons h11 allE_nil))))))))))))) hV (.cons .int .nil) rfl w
                      · have hV : (dig_r10 c).told? = some (.int .i64 (hexI c)) := congrArg some (by unfold hexI; have g0 : ¬ ((48 : Int) = (c : Int)) := ne_of_beq_false h0; have g1 : ¬ ((49 : Int) = (c : Int)) := ne_of_beq_false h1; have g2 : ¬ ((50 : Int) = (c : Int)) := ne_of_beq_false h2; have g3 : ¬ ((51 : Int) = (c : Int)) := ne_of_beq_false h3; have g4 : ¬ ((52 : Int) = (c : Int)) := ne_of_beq_false h4; have g5 : ¬ ((53 : Int) = (c : Int)) := ne_of_beq_false h5; have g6 : ¬ ((54 : Int) = (c : Int)) := ne_of_beq_false h6; have g7 : ¬ ((55 : Int) = (c : Int)) := ne_of_beq_false h7; have g8 : ¬ ((56 : Int) = (c : Int)) := ne_of_beq_false h8; have g9 : ¬ ((57 : Int) = (c : Int)) := ne_of_beq_false h9; have g10 : ((97 : Int) = (c : Int)) := eq_of_beq h10; rw [if_neg (by omega), if_pos (by omega)]; show Value.int .i64 10 = Value.int _ _; (congr 1 <;> omega))
                        exact ev_callsI E0_ok 60 (dig_10 c (allE_cons h0 (allE_cons h1 (allE_cons h2 (allE_cons h3 (allE_cons h4 (allE_cons h5 (allE_cons h6 (allE_cons h7 (allE_cons h8 (allE_cons h9 (allE_cons h10 allE_nil)))))))))))) hV (.cons .int .nil) rfl w
                    · have hV : (dig_r9 c).told? = some (.int .i64 (hexI c)) := congrArg some (by unfold hexI; have g0 : ¬ ((48 : Int) = (c : Int)) := ne_of_beq_false h0; have g1 : ¬ ((49 : Int) = (c : Int)) := ne_of_beq_false h1; have g2 : ¬ ((50 : Int) = (c : Int)) := ne_of_beq_false h2; have g3 : ¬ ((51 : Int) = (c : Int)) := ne_of_beq_false h3; have g4 : ¬ ((52 : Int) = (c : Int)) := ne_of_beq_false h4; have g5 : ¬ ((53 : Int) = (c : Int)) := ne_of_beq_false h5; have g6 : ¬ ((54 : Int) = (c : Int)) := ne_of_beq_false h6; have g7 : ¬ ((55 : Int) = (c : Int)) := ne_of_beq_false h7; have g8 : ¬ ((56 : Int) = (c : Int)) := ne_of_beq_false h8; have g9 : ((57 : Int) = (c : Int)) := eq_of_beq h9; rw [if_pos (by omega)]; show Value.int .i64 9 = Value.int _ _; (congr 1 <;> omega))
                      exact ev_callsI E0_ok 60 (dig_9 c (allE_cons h0 (allE_cons h1 (allE_cons h2 (allE_cons h3 (allE_cons h4 (allE_cons h5 (allE_cons h6 (allE_cons h7 (allE_cons h8 (allE_cons h9 allE_nil))))))))))) hV (.cons .int .nil) rfl w
                  · have hV : (dig_r8 c).told? = some (.int .i64 (hexI c)) := congrArg some (by unfold hexI; have g0 : ¬ ((48 : Int) = (c : Int)) := ne_of_beq_false h0; have g1 : ¬ ((49 : Int) = (c : Int)) := ne_of_beq_false h1; have g2 : ¬ ((50 : Int) = (c : Int)) := ne_of_beq_false h2; have g3 : ¬ ((51 : Int) = (c : Int)) := ne_of_beq_false h3; have g4 : ¬ ((52 : Int) = (c : Int)) := ne_of_beq_false h4; have g5 : ¬ ((53 : Int) = (c : Int)) := ne_of_beq_false h5; have g6 : ¬ ((54 : Int) = (c : Int)) := ne_of_beq_false h6; have g7 : ¬ ((55 : Int) = (c : Int)) := ne_of_beq_false h7; have g8 : ((56 : Int) = (c : Int)) := eq_of_beq h8; rw [if_pos (by omega)]; show Value.int .i64 8 = Value.int _ _; (congr 1 <;> omega))
                    exact ev_callsI E0_ok 60 (dig_8 c (allE_cons h0 (allE_cons h1 (allE_cons h2 (allE_cons h3 (allE_cons h4 (allE_cons h5 (allE_cons h6 (allE_cons h7 (allE_cons h8 allE_nil)))))))))) hV (.cons .int .nil) rfl w
                · have hV : (dig_r7 c).told? = some (.int .i64 (hexI c)) := congrArg some (by unfold hexI; have g0 : ¬ ((48 : Int) = (c : Int)) := ne_of_beq_false h0; have g1 : ¬ ((49 : Int) = (c : Int)) := ne_of_beq_false h1; have g2 : ¬ ((50 : Int) = (c : Int)) := ne_of_beq_false h2; have g3 : ¬ ((51 : Int) = (c : Int)) := ne_of_beq_false h3; have g4 : ¬ ((52 : Int) = (c : Int)) := ne_of_beq_false h4; have g5 : ¬ ((53 : Int) = (c : Int)) := ne_of_beq_false h5; have g6 : ¬ ((54 : Int) = (c : Int)) := ne_of_beq_false h6; have g7 : ((55 : Int) = (c : Int)) := eq_of_beq h7; rw [if_pos (by omega)]; show Value.int .i64 7 = Value.int _ _; (congr 1 <;> omega))
                  exact ev_callsI E0_ok 60 (dig_7 c (allE_cons h0 (allE_cons h1 (allE_cons h2 (allE_cons h3 (allE_cons h4 (allE_cons h5 (allE_cons h6 (allE_cons h7 allE_nil))))))))) hV (.cons .int .nil) rfl w
              · have hV : (dig_r6 c).told? = some (.int .i64 (hexI c)) := congrArg some (by unfold hexI; have g0 : ¬ ((48 : Int) = (c : Int)) := ne_of_beq_false h0; have g1 : ¬ ((49 : Int) = (c : Int)) := ne_of_beq_false h1; have g2 : ¬ ((50 : Int) = (c : Int)) := ne_of_beq_false h2; have g3 : ¬ ((51 : Int) = (c : Int)) := ne_of_beq_false h3; have g4 : ¬ ((52 : Int) = (c : Int)) := ne_of_beq_false h4; have g5 : ¬ ((53 : Int) = (c : Int)) := ne_of_beq_false h5; have g6 : ((54 : Int) = (c : Int)) := eq_of_beq h6; rw [if_pos (by omega)]; show Value.int .i64 6 = Value.int _ _; (congr 1 <;> omega))
                exact ev_callsI E0_ok 60 (dig_6 c (allE_cons h0 (allE_cons h1 (allE_cons h2 (allE_cons h3 (allE_cons h4 (allE_cons h5 (allE_cons h6 allE_nil)))))))) hV (.cons .int .nil) rfl w
            · have hV : (dig_r5 c).told? = some (.int .i64 (hexI c)) := congrArg some (by unfold hexI; have g0 : ¬ ((48 : Int) = (c : Int)) := ne_of_beq_false h0; have g1 : ¬ ((49 : Int) = (c : Int)) := ne_of_beq_false h1; have g2 : ¬ ((50 : Int) = (c : Int)) := ne_of_beq_false h2; have g3 : ¬ ((51 : Int) = (c : Int)) := ne_of_beq_false h3; have g4 : ¬ ((52 : Int) = (c : Int)) := ne_of_beq_false h4; have g5 : ((53 : Int) = (c : Int)) := eq_of_beq h5; rw [if_pos (by omega)]; show Value.int .i64 5 = Value.int _ _; (congr 1 <;> omega))
              exact ev_callsI E0_ok 60 (dig_5 c (allE_cons h0 (allE_cons h1 (allE_cons h2 (allE_cons h3 (allE_cons h4 (allE_cons h5 allE_nil))))))) hV (.cons .int .nil) rfl w
          · have hV : (dig_r4 c).told? = some (.int .i64 (hexI c)) := congrArg some (by unfold hexI; have g0 : ¬ ((48 : Int) = (c : Int)) := ne_of_beq_false h0; have g1 : ¬ ((49 : Int) = (c : Int)) := ne_of_beq_false h1; have g2 : ¬ ((50 : Int) = (c : Int)) := ne_of_beq_false h2; have g3 : ¬ ((51 : Int) = (c : Int)) := ne_of_beq_false h3; have g4 : ((52 : Int) = (c : Int)) := eq_of_beq h4; rw [if_pos (by omega)]; show Value.int .i64 4 = Value.int _ _; (congr 1 <;> omega))
            exact ev_callsI E0_ok 60 (dig_4 c (allE_cons h0 (allE_cons h1 (allE_cons h2 (allE_cons h3 (allE_cons h4 allE_nil)))))) hV (.cons .int .nil) rfl w
        · have hV : (dig_r3 c).told? = some (.int .i64 (hexI c)) := congrArg some (by unfold hexI; have g0 : ¬ ((48 : Int) = (c : Int)) := ne_of_beq_false h0; have g1 : ¬ ((49 : Int) = (c : Int)) := ne_of_beq_false h1; have g2 : ¬ ((50 : Int) = (c : Int)) := ne_of_beq_false h2; have g3 : ((51 : Int) = (c : Int)) := eq_of_beq h3; rw [if_pos (by omega)]; show Value.int .i64 3 = Value.int _ _; (congr 1 <;> omega))
          exact ev_callsI E0_ok 60 (dig_3 c (allE_cons h0 (allE_cons h1 (allE_cons h2 (allE_cons h3 allE_nil))))) hV (.cons .int .nil) rfl w
      · have hV : (dig_r2 c).told? = some (.int .i64 (hexI c)) := congrArg some (by unfold hexI; have g0 : ¬ ((48 : Int) = (c : Int)) := ne_of_beq_false h0; have g1 : ¬ ((49 : Int) = (c : Int)) := ne_of_beq_false h1; have g2 : ((50 : Int) = (c : Int)) := eq_of_beq h2; rw [if_pos (by omega)]; show Value.int .i64 2 = Value.int _ _; (congr 1 <;> omega))
        exact ev_callsI E0_ok 60 (dig_2 c (allE_cons h0 (allE_cons h1 (allE_cons h2 allE_nil)))) hV (.cons .int .nil) rfl w
    · have hV : (dig_r1 c).told? = some (.int .i64 (hexI c)) := congrArg some (by unfold hexI; have g0 : ¬ ((48 : Int) = (c : Int)) := ne_of_beq_false h0; have g1 : ((49 : Int) = (c : Int)) := eq_of_beq h1; rw [if_pos (by omega)]; show Value.int .i64 1 = Value.int _ _; (congr 1 <;> omega))
      exact ev_callsI E0_ok 60 (dig_1 c (allE_cons h0 (allE_cons h1 allE_nil))) hV (.cons .int .nil) rfl w
  · have hV : (dig_r0 c).told? = some (.int .i64 (hexI c)) := congrArg some (by unfold hexI; have g0 : ((48 : Int) = (c : Int)) := eq_of_beq h0; rw [if_pos (by omega)]; show Value.int .i64 0 = Value.int _ _; (congr 1 <;> omega))
    exact ev_callsI E0_ok 60 (dig_0 c (allE_cons h0 allE_nil)) hV (.cons .int .nil) rfl w
end

section
theorem W_zero : W 0#256 = .agg #[.int .u64 0, .int .u64 0, .int .u64 0, .int .u64 0] := congrArg Value.agg wc_zero
theorem toList_size (s : ByteArray) : s.data.toList.length = s.size := by
  rw [Array.length_toList]; rfl
theorem extract2 (s : ByteArray) : (s.extract 0 2).data.toList = s.data.toList.take 2 := by
  rw [ByteArray.data_extract]; simp
theorem parse_short {s : ByteArray} (h : s.size < 3) : parseS s = (0#256, 110) := by
  have := toList_size s
  unfold parseS
  split
  · rename_i r e
    rw [e] at this
    have : r = [] := by simp at this; exact List.length_eq_zero_iff.1 (by omega)
    rw [if_pos this]
  · rfl
theorem parse_head {s : ByteArray} (h : s.extract 0 2 ≠ ⟨#[48, 120]⟩) : parseS s = (0#256, 110) := by
  unfold parseS
  split
  · rename_i r e
    exfalso
    apply h
    apply ByteArray.ext
    apply Array.toList_inj.1
    rw [extract2, e]; rfl
  · rfl
theorem parse_rest {s : ByteArray} (h3 : 3 ≤ s.size) (h : s.extract 0 2 = ⟨#[48, 120]⟩) : ∃ r, s.data.toList = 48 :: 120 :: r ∧ r ≠ [] ∧ r.length + 2 = s.size := by
  have e1 := extract2 s
  have e2 := toList_size s
  rw [h] at e1
  generalize s.data.toList = l at *
  match l, e1, e2 with
  | [], e1, e2 => simp at e2; omega
  | [a], e1, e2 => simp at e2; omega
  | a :: b :: r, e1, e2 =>
    simp at e1
    obtain ⟨rfl, rfl⟩ := e1
    simp at e2
    exact ⟨r, rfl, by rintro rfl; simp at e2; omega, e2⟩
theorem str_at {s : ByteArray} {r : List UInt8} (e : s.data.toList = 48 :: 120 :: r) {k : Nat} (h : k + 2 < s.size) : s[k + 2]'h = r.getD k 0 := by
  have h1 : s[k + 2]'h = s.data[k + 2]'h := rfl
  rw [h1, ← Array.getElem_toList]
  have : (s.data.toList)[k + 2]? = (48 :: 120 :: r)[k + 2]? := by rw [e]
  rw [List.getElem?_eq_getElem (by rw [toList_size]; exact h)] at this
  have h2 : (48 :: 120 :: r)[k + 2]? = r[k]? := by simp
  rw [h2] at this
  rw [List.getD, ← this]; rfl
def PrsRel (r : List UInt8) (b : Nat) (U : World) (i : Value) (wr : World) : Prop :=
  ∃ k : Nat, k ≤ r.length ∧ i = .int .i64 ((k + 2 : Nat) : Int) ∧ psOk r k ∧ Blk wr b (wc (psW r k)) 26 ∧ U.grownBy wr (some b)
set_option maxRecDepth 20000 in
set_option maxHeartbeats 4000000 in
theorem refParse_any (s : ByteArray) (hs : s.size ≤ 1000) (w : World) : Calls Tryd.prog 18 #[.string s] w fun e w' => e = .returned (.tuple #[W (parseS s).1, .int .i64 ((parseS s).2 : Nat)]) ∧ Below w.heap.size w w' := by
  by_cases h3 : s.size < 3
  · rw [parse_short h3]
    have hl : decide ((s.size : Int) < 3) = true := decide_eq_true (by omega)
    go_enter Tryd.func18, Tryd.ntmps18
    go_wp2_with fail
    rw [W_zero]
    refine bodyPost_ret (v := .tuple #[.agg #[.int .u64 0, .int .u64 0, .int .u64 0, .int .u64 0], .int .i64 110]) (by simp [results, Tryd.results18, go_sem, *]) rfl ?_
    exact ⟨rfl, by go_grown⟩
  by_cases h2 : s.extract 0 2 = ⟨#[48, 120]⟩
  case neg =>
    rw [parse_head h2]
    have hl : decide ((s.size : Int) < 3) = false := decide_eq_false (by omega)
    have hne : ((s.extract 0 2).toList == [48, 120]) = false := by
      rw [Bool.eq_false_iff]; intro h; apply h2
      have := eq_of_beq h
      rw [ByteArray.toList_eq] at this
      exact ByteArray.ext (Array.toList_inj.1 this)
    go_enter Tryd.func18, Tryd.ntmps18
    go_wp2_with fail
    rw [W_zero]
    refine bodyPost_ret (v := .tuple #[.agg #[.int .u64 0, .int .u64 0, .int .u64 0, .int .u64 0], .int .i64 110]) (by simp [results, Tryd.results18, go_sem, *]) rfl ?_
    exact ⟨rfl, by go_grown⟩
  obtain ⟨r, he, h0, hrl⟩ := parse_rest (by omega) h2
  have hl : decide ((s.size : Int) < 3) = false := decide_eq_false (by omega)
  have hne : ((s.extract 0 2).toList == [48, 120]) = true := by rw [h2, ByteArray.toList_eq]; rfl
  by_cases h66 : 66 < s.size
  · rw [parse_long he (by omega)]
    have hl2 : decide ((66 : Int) < (s.size : Int)) = true := decide_eq_true (by omega)
    have HH := Lib.hid h2
    clear h2
    go_enter Tryd.func18, Tryd.ntmps18
    go_wp2_with fail
    rw [W_zero]
    refine bodyPost_ret (v := .tuple #[.agg #[.int .u64 0, .int .u64 0, .int .u64 0, .int .u64 0], .int .i64 3]) (by simp [results, Tryd.results18, go_sem, *]) rfl ?_
    exact ⟨rfl, by go_grown⟩
  have hl2 : decide ((66 : Int) < (s.size : Int)) = false := decide_eq_false (by omega)
  have HD := Lib.hid (fun k (hk : k < r.length) => parse_digit he h0 (by omega) hk)
  have HT := Lib.hid (parse_text he h0 (by omega))
  have HAT := Lib.hid (fun k (h : k + 2 < s.size) => str_at he h)
  have HR := Lib.hid h0
  clear h2 he h0
  go_enter Tryd.func18, Tryd.ntmps18
  go_upto_region 6 with (fail)
  refine wp_name fun U hU => ?_
  have hz : Blk U (w.heap.size + 1) (wc (psW r 0)) 26 := by rw [hU, show psW r 0 = 0 from rfl, wc_zero]; exact (Own.get (Own.new (Own.new (Own.nil w) (w.heap.size) (by first | rfl | simp)) (w.heap.size + 1) (by simp)) 0 rfl)
  have hz2 : Blk U w.heap.size #[.int .u64 0, .int .u64 0, .int .u64 0, .int .u64 0] 26 := by rw [hU]; exact (Own.get (Own.new (Own.new (Own.nil w) (w.heap.size) (by first | rfl | simp)) (w.heap.size + 1) (by simp)) 1 rfl)
  have hB : Below w.heap.size w U := by rw [hU]; go_grown
  have HZ := Lib.hid hz
  have HZ2 := Lib.hid hz2
  have HB := Lib.hid hB
  have hn2 : w.heap.size ≠ w.heap.size + 1 := by omega
  clear hU hz hB hz2
  go_wp2_with fail
  go_loopw [5] (fun i wr => PrsRel r (w.heap.size + 1) U i wr) (fun i _ => s.size - (intOf i).toNat)
  case atStart => exact ⟨0, Nat.zero_le _, rfl, (fun j hj => by omega), HZ.out, grownBy_refl _ _⟩
  case round =>
    obtain ⟨k, hk, rfl, hok, hblk, hgr⟩ := hrel
    have hzb := blk_grown HZ2.out hgr hn2
    have hl7 := hblk.lt
    have hl8 := hzb.lt
    have HGR := Lib.hid hgr
    by_cases hlk : k < r.length
    · have hks : k + 2 < s.size := by omega
      have hat := HAT.out k hks
      have HDK := Lib.hid (HD.out k hlk)
      have HOK := Lib.hid hok
      have HS := Lib.hid (fun (h : 0 ≤ hexI (r.getD k 0).toNat) => psOk_succ hok h)
      have hp1 : psW r (k + 1) = psW r k * 16#256 + BitVec.ofNat 256 (hexI (r.getD k 0).toNat).toNat := rfl
      have HP1 := Lib.hid hp1
      have hge := hexI_ge (r.getD k 0).toNat
      have hlt := hexI_lt (r.getD k 0).toNat
      have hcl : (r.getD k 0).toNat < 256 := (r.getD k 0).toNat_lt
      clear hok hp1
      generalize hc : (r.getD k 0).toNat = c at *
      have hdg := fun V : World => dig_any c hcl V
      have HDG := Lib.hid hdg
      generalize hd : hexI c = d at *
      have hat2 : ((s[k + 2]'hks).toNat : Nat) = c := by rw [hat]; exact hc
      clear hdg hat
      go_wp2_with fail
      refine (HDG.out _).mono ?_
      rintro e w2 ⟨rfl, hb2⟩
      have hzb2 : Blk w2 w.heap.size #[.int .u64 0, .int .u64 0, .int .u64 0, .int .u64 0] 26 := (hb2.block _ hl8).trans hzb
      have hbk2 : Blk w2 (w.heap.size + 1) (wc (psW r k)) 26 := (hb2.block _ hl7).trans hblk
      have hg2 := grownBy_trans HGR.out (grownBy_below hb2 (some (w.heap.size + 1)))
      have hsz2 := hb2.size
      have HBW2 := Lib.hid (below_grownBy HB.out hg2 (Nat.le_refl _) (by omega))
      have HG2 := Lib.hid hg2
      by_cases hneg : d < 0
      · have hn : decide (d < 0) = true := decide_eq_true hneg
        have hc2 := hzb2.cell
        have hf2 := hzb2.free
        have HZ3 := Lib.hid hzb2
        clear hb2 hzb2 hbk2 hg2
        go_wp2_with fail
        refine bodyPost_ret (v := .tuple #[.agg #[.int .u64 0, .int .u64 0, .int .u64 0, .int .u64 0], .int .i64 110]) (by simp [results, Tryd.results18, go_sem, *]) rfl ?_
        refine ⟨by rw [HDK.out hneg, W_zero]; rfl, ?_⟩
        have := HBW2.out
        go_grown
      · have hn : decide (d < 0) = false := decide_eq_false hneg
        have HNX := Lib.hid (HS.out (by omega))
        obtain ⟨m, rfl⟩ : ∃ m : Nat, d = (m : Int) := ⟨d.toNat, by omega⟩
        rw [Int.toNat_natCast] at HP1
        have hm16 : m < 16 := by omega
        generalize hP1 : psW r (k + 1) = P1 at *
        generalize psW r k = P0 at *
        have HMU := Lib.hid (fun V => refMulW P0 (BitVec.ofNat 256 16) V)
        have HAD := Lib.hid (fun V => refAddW (P0 * BitVec.ofNat 256 16) (BitVec.ofNat 256 m) V)
        have HO16 := Lib.hid (fun V => refOfW 16 (by decide) V)
        have HOM := Lib.hid (fun V => refOfW m (by omega) V)
        have hwu : IntKind.u64.wrap (m : Int) = (m : Int) := IntWalk.u64_in _ (by omega)
        clear hb2 hg2
        go_wp2_with fail
        refine wp_region_grow w2.heap.size 7 0 0 [(0, 0, 8589934592, 16), (1, 0, 17179869184, 0), (2, 3, 34359738368, 25769803776), (3, 0, 68719476736, 64), (4, 8, 137438953472, 68719476736), (5, 20, 274877906944, 137438953472), (6, 36, 549755813888, 309237645312), (7, 127, 0, 549755813904)] [(.p 0, 1), (.p 1, 3), (.p 2, 7), (.p 3, 15), (.p 4, 31), (.p 5, 63), (.p 6, 127)] [(7, 255)] _ (fun p hp => hp) (by first | omega | (simp; done) | (simp; omega)) (by kernel_rfl) (by kernel_rfl) (Own.cons hbk2 (own1 hzb2)) ?_
        refine wpG_pure (i := 0) (v := ?v21x0) rfl rfl (by rfl) (fun w hB hG K hK => ?h21x0) ?_
        case h21x0 =>
          have cx := Own.cell hG 0 rfl
          go_wp2_with fail
          exact hK _ (Below.refl _ _)
        simp only [List.set_cons_zero, List.set_cons_succ]
        refine wpG_pure (i := 1) (v := ?v21x1) rfl rfl (by rfl) (fun w hB hG K hK => ?h21x1) ?_
        case h21x1 =>
          go_wp2_with fail
          refine (HO16.out _).mono ?_
          rintro e wx ⟨rfl, hbx⟩
          exact hK _ hbx
        simp only [List.set_cons_zero, List.set_cons_succ]
        refine wpG_pure (i := 2) (v := ?v21x2) rfl rfl (by rfl) (fun w hB hG K hK => ?h21x2) ?_
        case h21x2 =>
          go_wp2_with fail
          refine (HMU.out _).mono ?_
          rintro e wx ⟨rfl, hbx⟩
          exact hK _ hbx
        simp only [List.set_cons_zero, List.set_cons_succ]
        refine wpG_move (i := 3) rfl rfl rfl (by rfl) rfl ?_
        simp only [List.set_cons_zero, List.set_cons_succ]
        refine wpG_pure (i := 4) (v := ?v21x4) rfl rfl (by rfl) (fun w hB hG K hK => ?h21x4) ?_
        case h21x4 =>
          go_wp2_with fail
          exact hK _ (Below.refl _ _)
        simp only [List.set_cons_zero, List.set_cons_succ]
        refine wpG_pure (i := 5) (v := ?v21x5) rfl rfl (by rfl) (fun w hB hG K hK => ?h21x5) ?_
        case h21x5 =>
          go_wp2_with fail
          refine (HOM.out _).mono ?_
          rintro e wx ⟨rfl, hbx⟩
          exact hK _ hbx
        simp only [List.set_cons_zero, List.set_cons_succ]
        refine wpG_pure (i := 6) (v := ?v21x6) rfl rfl (by rfl) (fun w hB hG K hK => ?h21x6) ?_
        case h21x6 =>
          go_wp2_with fail
          refine (HAD.out _).mono ?_
          rintro e wx ⟨rfl, hbx⟩
          exact hK _ hbx
        simp only [List.set_cons_zero, List.set_cons_succ]
        refine wpG_nil (fun w21 hb21 hG21 => ?_)
        simp only [List.append_eq, List.cons_append, List.nil_append, List.drop_succ_cons, List.drop_zero, List.drop_nil]
        have O21 := Own.of hG21
        try simp only [List.setIfInBounds_toArray, List.set_cons_zero, List.set_cons_succ] at O21
        have bw21 : Below w2.heap.size w2 w21 := Below.trans (by go_grown) (Below.mono hb21 (by first | omega | (simp; done) | (simp; omega)))
        have zw21 := Below.size hb21
        try simp only [World.size_alloc, World.size_drew, World.size_setCell] at zw21
        have c21x0 := Own.cell O21 0 rfl
        have f21x0 := Own.free O21 0 rfl
        have l21x0 := Own.lt O21 0 rfl
        have l21x0d0 := le_up 0 l21x0
        have l21x0d1 := le_up 1 l21x0
        simp only [upN] at l21x0d0 l21x0d1
        have c21x1 := Own.cell O21 1 rfl
        have f21x1 := Own.free O21 1 rfl
        have l21x1 := Own.lt O21 1 rfl
        have l21x1d0 := le_up 0 l21x1
        have l21x1d1 := le_up 1 l21x1
        simp only [upN] at l21x1d0 l21x1d1
        have HO21 := Lib.hid O21
        clear O21 hb21
        have hE := (((((HO21.out.get 0 rfl).set 0 (.int .u64 (L (P0 * BitVec.ofNat 256 16 + BitVec.ofNat 256 m) 0))).set 1 (.int .u64 (L (P0 * BitVec.ofNat 256 16 + BitVec.ofNat 256 m) 1))).set 2 (.int .u64 (L (P0 * BitVec.ofNat 256 16 + BitVec.ofNat 256 m) 2))).set 3 (.int .u64 (L (P0 * BitVec.ofNat 256 16 + BitVec.ofNat 256 m) 3)))
        have hG := grownBy_setr (grownBy_setr (grownBy_setr (grownBy_setr (grownBy_trans HG2.out (grownBy_below bw21 (some (w.heap.size + 1)))) (w.heap.size + 1) 0 (.int .u64 (L (P0 * BitVec.ofNat 256 16 + BitVec.ofNat 256 m) 0))) (w.heap.size + 1) 1 (.int .u64 (L (P0 * BitVec.ofNat 256 16 + BitVec.ofNat 256 m) 1))) (w.heap.size + 1) 2 (.int .u64 (L (P0 * BitVec.ofNat 256 16 + BitVec.ofNat 256 m) 2))) (w.heap.size + 1) 3 (.int .u64 (L (P0 * BitVec.ofNat 256 16 + BitVec.ofNat 256 m) 3))
        have HE := Lib.hid hE
        have HGG := Lib.hid hG
        clear hE hG bw21
        go_wp2_with fail
        refine ⟨⟨k + 1, by omega, by go_num, HNX.out, ?_, HGG.out⟩, by simp only [intOf]; omega⟩
        rw [hP1, HP1.out]
        exact HE.out
    · obtain rfl : k = r.length := by omega
      have HTT := Lib.hid (HT.out hok)
      have hrs : decide (((r.length : Int) + 2) < (s.size : Int)) = false := decide_eq_false (by omega)
      have hcc := Blk.cell hblk
      have hc2 := Blk.cell hzb
      have hf2 := Blk.free hzb
      have HBB := Lib.hid (below_grownBy HB.out hgr (Nat.le_refl _) (by omega))
      have HTX := Lib.hid (fun V => refTextW (psW r r.length) V)
      have HBK := Lib.hid hblk
      have HZB := Lib.hid hzb
      clear hblk hzb hgr hok
      generalize hP : psW r r.length = P at *
      clear HD HT HZ HZ2 HB
      go_wp2_with fail
      refine (HTX.out _).mono ?_
      rintro e w2 ⟨rfl, hb2⟩
      have hzb2 : Blk w2 w.heap.size #[.int .u64 0, .int .u64 0, .int .u64 0, .int .u64 0] 26 := (hb2.block _ hl8).trans HZB.out
      have hbk2 : Blk w2 (w.heap.size + 1) (wc P) 26 := (hb2.block _ hl7).trans HBK.out
      have HBW2 := Lib.hid (HBB.out.trans (hb2.mono HBB.out.size))
      have hcd := Blk.cell hbk2
      have hd2 := Blk.cell hzb2
      have hg2 := Blk.free hzb2
      have hl9 := hzb2.lt
      have hl10 := hbk2.lt
      clear hb2 hzb2 hbk2 hcc hc2 hf2
      generalize txW P = T at *
      by_cases hT : T = s
      · have htl : (T.toList == s.toList) = true := by rw [hT]; exact beq_self_eq_true _
        have HTe := Lib.hid hT
        clear hT
        go_wp2_with fail
        refine bodyPost_ret (v := .tuple #[W P, .int .i64 0]) (by simp [results, Tryd.results18, go_sem, *]) rfl ?_
        refine ⟨by rw [HTT.out, if_pos HTe.out]; rfl, ?_⟩
        have := HBW2.out
        go_grown
      · have htl : (T.toList == s.toList) = false := by
          rw [Bool.eq_false_iff]; intro h; apply hT
          have := eq_of_beq h
          rw [ByteArray.toList_eq, ByteArray.toList_eq] at this
          exact ByteArray.ext (Array.toList_inj.1 this)
        have HTe := Lib.hid hT
        clear hT
        go_wp2_with fail
        refine bodyPost_ret (v := .tuple #[.agg #[.int .u64 0, .int .u64 0, .int .u64 0, .int .u64 0], .int .i64 110]) (by simp [results, Tryd.results18, go_sem, *]) rfl ?_
        refine ⟨by rw [HTT.out, if_neg HTe.out, W_zero]; rfl, ?_⟩
        have := HBW2.out
        go_grown
end

section
theorem wp_scope_fwd {P : Program} {a : Act} {w : World} {Q : Exit → Act → World → Prop} {c rest : Code} (l : Nat) (hf : findLabel c l = some rest) (first : c.wp P (Exit.jump l (fun a w => rest.wp P (Exit.noGoto Q) a w) Q) a w) : (Code.scope c).wp P Q a w :=
  wp_scope_jumps l _ (fun _ _ => 0) hf first (fun a w h => wp_mono h (fun e a w hq => by
    cases e with
    | goto l' => exact hq.elim
    | _ => exact hq))
/-- What the end of bytes is, or that they are too far. -/
theorem dataL (l : List UInt8) : (⟨l.toArray⟩ : ByteArray).data.toList = l := rfl
set_option maxRecDepth 20000 in
set_option maxHeartbeats 4000000 in
theorem parse_A (s : ByteArray) (h : Lib.hasPrefix s.data.toList [48, 120] = false) (w : World) : Calls Tryd.prog 15 #[.string s] w fun e w' => e = .returned (.tuple #[W (parseS s).1, .int .i64 ((parseS s).2 : Nat)]) ∧ Below w.heap.size w w' := by
  rw [parse_bad (.inl h), W_zero]
  have HC := Lib.hid (fun V => Tryd.strings_CutPrefix s ⟨#[48, 120]⟩ V)
  go_enter Tryd.func15, Tryd.ntmps15
  go_wp2_with fail
  refine wp_scope_fwd 0 rfl ?_
  go_wp2_with fail
  refine (HC.out _).mono ?_
  rintro e w2 ⟨rfl, hw2⟩
  subst hw2
  rw [h]
  generalize (⟨(Lib.trimPrefix s.data.toList [48, 120]).toArray⟩ : ByteArray) = R
  go_wp2_with fail
  all_goals (first | (go_step3; refine ⟨rfl, ?_⟩) | skip)
  go_wp2_with fail
  all_goals (try rw [Exit.noGoto_ret])
  refine bodyPost_ret (v := .tuple #[.agg #[.int .u64 0, .int .u64 0, .int .u64 0, .int .u64 0], .int .i64 110]) (by simp [results, Tryd.results15, go_sem, *]) rfl ?_
  exact ⟨rfl, by go_grown⟩
set_option maxRecDepth 20000 in
set_option maxHeartbeats 4000000 in
theorem parse_B (s : ByteArray) (h : Lib.hasPrefix s.data.toList [48, 120] = true) (h2 : Lib.trimPrefix s.data.toList [48, 120] = []) (w : World) : Calls Tryd.prog 15 #[.string s] w fun e w' => e = .returned (.tuple #[W (parseS s).1, .int .i64 ((parseS s).2 : Nat)]) ∧ Below w.heap.size w w' := by
  rw [parse_bad (.inr h2), W_zero]
  have HC := Lib.hid (fun V => Tryd.strings_CutPrefix s ⟨#[48, 120]⟩ V)
  go_enter Tryd.func15, Tryd.ntmps15
  go_wp2_with fail
  refine wp_scope_fwd 0 rfl ?_
  go_wp2_with fail
  refine (HC.out _).mono ?_
  rintro e w2 ⟨rfl, hw2⟩
  subst hw2
  rw [h, h2]
  have hem : ((⟨([] : List UInt8).toArray⟩ : ByteArray)).toList.isEmpty = true := by rw [ByteArray.toList_eq]; rfl
  go_wp2_with fail
  all_goals (first | (go_step3; refine ⟨rfl, ?_⟩) | skip)
  go_wp2_with fail
  all_goals (try rw [Exit.noGoto_ret])
  refine bodyPost_ret (v := .tuple #[.agg #[.int .u64 0, .int .u64 0, .int .u64 0, .int .u64 0], .int .i64 110]) (by simp [results, Tryd.results15, go_sem, *]) rfl ?_
  exact ⟨rfl, by go_grown⟩
theorem cut_rest {s : ByteArray} {r : List UInt8} (e : s.data.toList = 48 :: 120 :: r) : Lib.hasPrefix s.data.toList [48, 120] = true ∧ Lib.trimPrefix s.data.toList [48, 120] = r := by
  rw [e]
  constructor
  · simp [Lib.hasPrefix]
  · simp [Lib.trimPrefix, Lib.hasPrefix]
theorem rest_ne {r : List UInt8} (h0 : r ≠ []) : ((⟨r.toArray⟩ : ByteArray)).toList.isEmpty = false := by
  rw [ByteArray.toList_eq, Bool.eq_false_iff]
  intro h
  apply h0
  simpa using h
set_option maxRecDepth 20000 in
set_option maxHeartbeats 4000000 in
theorem parse_C (s : ByteArray) (r : List UInt8) (e : s.data.toList = 48 :: 120 :: r) (h0 : r ≠ []) (hl : 64 < r.length) (w : World) : Calls Tryd.prog 15 #[.string s] w fun e w' => e = .returned (.tuple #[W (parseS s).1, .int .i64 ((parseS s).2 : Nat)]) ∧ Below w.heap.size w w' := by
  obtain ⟨h1, h2⟩ := cut_rest e
  rw [parse_long e hl, W_zero]
  have HC := Lib.hid (fun V => Tryd.strings_CutPrefix s ⟨#[48, 120]⟩ V)
  go_enter Tryd.func15, Tryd.ntmps15
  go_wp2_with fail
  refine wp_scope_fwd 0 rfl ?_
  go_wp2_with fail
  refine (HC.out _).mono ?_
  rintro e w2 ⟨rfl, hw2⟩
  subst hw2
  rw [h1, h2]
  have hem := rest_ne h0
  have hsz : (⟨r.toArray⟩ : ByteArray).size = r.length := by simp [ByteArray.size]
  generalize (⟨r.toArray⟩ : ByteArray) = R at *
  have hl2 : decide ((64 : Int) < (R.size : Int)) = true := decide_eq_true (by omega)
  clear e HC h0
  go_wp2_with fail
  all_goals (first | (go_step3; refine ⟨rfl, ?_⟩) | skip)
  go_wp2_with fail
  all_goals (try rw [Exit.noGoto_ret])
  refine bodyPost_ret (v := .tuple #[.agg #[.int .u64 0, .int .u64 0, .int .u64 0, .int .u64 0], .int .i64 3]) (by simp [results, Tryd.results15, go_sem, *]) rfl ?_
  exact ⟨rfl, by go_grown⟩
end

section
theorem jump_ret {l : Nat} {J : Act → World → Prop} {Q : Exit → Act → World → Prop} {a : Act} {w : World} (h : Q Exit.ret a w) : Exit.jump l J Q Exit.ret a w := h
def PwRel (r : List UInt8) (b : Nat) (U : World) (i : Value) (wr : World) : Prop :=
  ∃ k : Nat, k ≤ r.length ∧ i = .int .i64 (k : Int) ∧ psOk r k ∧ Blk wr b (wc (psW r k)) 26 ∧ U.grownBy wr (some b)
set_option maxRecDepth 20000 in
set_option maxHeartbeats 8000000 in
theorem parse_D (s : ByteArray) (r : List UInt8) (he : s.data.toList = 48 :: 120 :: r) (h0 : r ≠ []) (hl : r.length ≤ 64) (w : World) : Calls Tryd.prog 15 #[.string s] w fun e w' => e = .returned (.tuple #[W (parseS s).1, .int .i64 ((parseS s).2 : Nat)]) ∧ Below w.heap.size w w' := by
  obtain ⟨h1, h2⟩ := cut_rest he
  have HD := Lib.hid (fun k (hk : k < r.length) => parse_digit he h0 hl hk)
  have HT := Lib.hid (parse_text he h0 hl)
  have HC := Lib.hid (fun V => Tryd.strings_CutPrefix s ⟨#[48, 120]⟩ V)
  go_enter Tryd.func15, Tryd.ntmps15
  go_wp2_with fail
  refine wp_scope_fwd 0 rfl ?_
  go_wp2_with fail
  refine (HC.out _).mono ?_
  rintro e w2 ⟨rfl, hw2⟩
  subst hw2
  rw [h1, h2]
  have hem := rest_ne h0
  have hsz : (⟨r.toArray⟩ : ByteArray).size = r.length := by simp [ByteArray.size]
  have hRl : (⟨r.toArray⟩ : ByteArray).data.toList = r := rfl
  generalize (⟨r.toArray⟩ : ByteArray) = R at *
  have hl2 : decide ((64 : Int) < (R.size : Int)) = false := decide_eq_false (by omega)
  have hcv := fun V : World => Lib.run_convert_string_bytes (P := Tryd.prog) V 9 30 5 R (u := .string) (by kernel_rfl) (by kernel_rfl) (by kernel_rfl)
  clear he HC h0 h1 h2
  go_upto_region 7 with (fail)
  refine wp_name fun U0 hU0 => ?_
  have hz0 : Blk U0 w.heap.size #[.int .u64 0, .int .u64 0, .int .u64 0, .int .u64 0] 26 := by rw [hU0]; exact (Own.get (Own.new (Own.nil w) (w.heap.size) (by first | rfl | simp)) 0 rfl)
  have hB0 : Below w.heap.size w U0 := by rw [hU0]; go_grown
  clear hU0
  go_wp2_with fail
  have hzl := hz0.lt
  have hz1 : Blk (Lib.bytesWorld U0 5 R) w.heap.size (wc (psW r 0)) 26 := by
    rw [show psW r 0 = 0 from rfl, wc_zero]
    exact (Lib.bytesWorld_at_old U0 _ R _ hzl).trans hz0
  have hb1 : Below w.heap.size w (Lib.bytesWorld U0 5 R) := hB0.trans ⟨rfl, rfl, rfl, by rw [Lib.bytesWorld_size]; omega, fun k hk => Lib.bytesWorld_at_old U0 _ R k (by omega)⟩
  have hcl := Lib.bytesWorld_cell U0 5 R
  have hbs := Lib.bytesWorld_size U0 5 R
  rw [hRl] at hcl
  have HZ := Lib.hid hz1
  have HB := Lib.hid hb1
  have HCL := Lib.hid hcl
  clear hz0 hB0 hz1 hb1 hcl hRl hcv
  generalize hb2e : U0.heap.size = b2 at *
  generalize Lib.bytesWorld U0 5 R = U at *
  clear hb2e
  go_loopw [26] (fun i wr => PwRel r w.heap.size U i wr) (fun i _ => r.length - (intOf i).toNat)
  case atStart => exact ⟨0, Nat.zero_le _, rfl, (fun j hj => by omega), HZ.out, grownBy_refl _ _⟩
  case round =>
    obtain ⟨k, hk, rfl, hok, hblk, hgr⟩ := hrel
    have hl7 := hblk.lt
    have HGR := Lib.hid hgr
    have hgs := hgr.size
    by_cases hlk : k < r.length
    · have hkR : k < R.size := by omega
      have hc0 := HCL.out k hkR
      have hc1 : wr.cell? ⟨b2, k, none⟩ = some (.int .u8 ((r.getD k 0).toNat : Int)) := by
        rw [World.cell?] at hc0 ⊢
        rw [hgr.block b2 (by omega) (fun e => by cases e; omega)]
        exact hc0
      have HDK := Lib.hid (HD.out k hlk)
      have HS := Lib.hid (fun (h : 0 ≤ hexI (r.getD k 0).toNat) => psOk_succ hok h)
      have hp1 : psW r (k + 1) = psW r k * 16#256 + BitVec.ofNat 256 (hexI (r.getD k 0).toNat).toNat := rfl
      have HP1 := Lib.hid hp1
      have hge := hexI_ge (r.getD k 0).toNat
      have hlt := hexI_lt (r.getD k 0).toNat
      have hdg : ∀ V, Calls Tryd.prog 32 #[.string ⟨#[48, 49, 50, 51, 52, 53, 54, 55, 56, 57, 97, 98, 99, 100, 101, 102]⟩, .int .u8 ((r.getD k 0).toNat : Int)] V fun e w' => e = .returned (.int .i64 (hexI (r.getD k 0).toNat)) ∧ w' = V := fun V => by
        have h := Tryd.strings_IndexByte ⟨#[48, 49, 50, 51, 52, 53, 54, 55, 56, 57, 97, 98, 99, 100, 101, 102]⟩ ((r.getD k 0).toNat : Int) V
        rw [← index_hex]
        rw [show (((r.getD k 0).toNat : Int)).toNat.toUInt8 = r.getD k 0 by rw [Int.toNat_natCast]; simp] at h
        exact h
      have HDG := Lib.hid hdg
      clear hok hp1 hdg hc0
      generalize (r.getD k 0).toNat = c at *
      generalize hd : hexI c = d at *
      go_wp2_with fail
      refine (HDG.out _).mono ?_
      rintro e w2 ⟨rfl, hw2⟩
      subst hw2
      have HBW := Lib.hid (below_grownBy HB.out hgr (Nat.le_refl _) (by omega))
      by_cases hneg : d < 0
      · have hn : decide (d < 0) = true := decide_eq_true hneg
        have hcc := hblk.cell
        have hff := hblk.free
        have HBK := Lib.hid hblk
        clear hgr hblk
        go_wp2_with fail
        all_goals (first | (go_step3; refine ⟨rfl, ?_⟩) | skip)
        go_wp2_with fail
        all_goals (try rw [Exit.noGoto_ret])
        refine bodyPost_ret (v := .tuple #[.agg #[.int .u64 0, .int .u64 0, .int .u64 0, .int .u64 0], .int .i64 110]) (by simp [results, Tryd.results15, go_sem, *]) rfl ?_
        refine ⟨by rw [HDK.out hneg, W_zero]; rfl, ?_⟩
        have := HBW.out
        go_grown
      · have hn : decide (d < 0) = false := decide_eq_false hneg
        have HNX := Lib.hid (HS.out (by omega))
        obtain ⟨m, rfl⟩ : ∃ m : Nat, d = (m : Int) := ⟨d.toNat, by omega⟩
        rw [Int.toNat_natCast] at HP1
        have hm16 : m < 16 := by omega
        generalize hP1 : psW r (k + 1) = P1 at *
        generalize psW r k = P0 at *
        have HMU := Lib.hid (fun V => wordMul_any P0 (BitVec.ofNat 256 16) V)
        have HAD := Lib.hid (fun sb V (h : Blk V sb #[.int .u64 (L (P0 * BitVec.ofNat 256 16) 0), .int .u64 (L (P0 * BitVec.ofNat 256 16) 1), .int .u64 (L (P0 * BitVec.ofNat 256 16) 2), .int .u64 (L (P0 * BitVec.ofNat 256 16) 3), .int .u64 (L (BitVec.ofNat 256 m) 0), .int .u64 (L (BitVec.ofNat 256 m) 1), .int .u64 (L (BitVec.ofNat 256 m) 2), .int .u64 (L (BitVec.ofNat 256 m) 3)] 26) => add_any (P0 * BitVec.ofNat 256 16) (BitVec.ofNat 256 m) sb _ V h)
        have HO16 := Lib.hid (fun V => wordOfW 16 (by decide) V)
        have HOM := Lib.hid (fun V => wordOfW m (by omega) V)
        have hwu : IntKind.u64.wrap (m : Int) = (m : Int) := IntWalk.u64_in _ (by omega)
        clear hgr
        go_wp2_with fail
        refine wp_region_grow w2.heap.size 8 0 64 [(0, 0, 17179869184, 4), (1, 0, 34359738368, 0), (2, 3, 68719476736, 51539607552), (3, 0, 137438953472, 256), (4, 8, 274877906944, 137438953472), (5, 20, 549755813888, 274877906944), (6, 36, 1099511627776, 618475290624), (7, 96, 2199023255552, 1099511627776), (8, 255, 0, 2199023255556)] [(.p 0, 1), (.p 1, 3), (.p 2, 7), (.p 3, 15), (.p 4, 31), (.p 5, 63), (.g 6, 127), (.q 7, 255)] [(8, 511)] _ (fun p hp => hp) (by first | omega | (simp; done) | (simp; omega)) (by kernel_rfl) (by kernel_rfl) (own1 hblk) ?_
        refine wpG_pure (i := 0) (v := ?v21x0) rfl rfl (by rfl) (fun w hB hG K hK => ?h21x0) ?_
        case h21x0 =>
          have cx := Own.cell hG 0 rfl
          go_wp2_with fail
          exact hK _ (Below.refl _ _)
        simp only [List.set_cons_zero, List.set_cons_succ]
        refine wpG_pure (i := 1) (v := ?v21x1) rfl rfl (by rfl) (fun w hB hG K hK => ?h21x1) ?_
        case h21x1 =>
          go_wp2_with fail
          refine (HO16.out _).mono ?_
          rintro e wx ⟨rfl, hbx⟩
          exact hK _ hbx
        simp only [List.set_cons_zero, List.set_cons_succ]
        refine wpG_pure (i := 2) (v := ?v21x2) rfl rfl (by rfl) (fun w hB hG K hK => ?h21x2) ?_
        case h21x2 =>
          go_wp2_with fail
          refine (HMU.out _).mono ?_
          rintro e wx ⟨rfl, hbx⟩
          exact hK _ hbx
        simp only [List.set_cons_zero, List.set_cons_succ]
        refine wpG_move (i := 3) rfl rfl rfl (by rfl) rfl ?_
        simp only [List.set_cons_zero, List.set_cons_succ]
        refine wpG_pure (i := 4) (v := ?v21x4) rfl rfl (by rfl) (fun w hB hG K hK => ?h21x4) ?_
        case h21x4 =>
          go_wp2_with fail
          exact hK _ (Below.refl _ _)
        simp only [List.set_cons_zero, List.set_cons_succ]
        refine wpG_pure (i := 5) (v := ?v21x5) rfl rfl (by rfl) (fun w hB hG K hK => ?h21x5) ?_
        case h21x5 =>
          go_wp2_with fail
          refine (HOM.out _).mono ?_
          rintro e wx ⟨rfl, hbx⟩
          exact hK _ hbx
        simp only [List.set_cons_zero, List.set_cons_succ]
        refine wpG_make (i := 6) (c := ?c21x6) (t := ?t21x6) (fun b => .slice (some ⟨b, 0, none⟩) 2 2) rfl rfl (by rfl) (fun w hB hG K hK => ?h21x6) (fun v21g1 l21g1 n21g1 => ?_)
        case h21x6 =>
          go_wp2_with fail
          exact hK
        simp only [List.set_cons_zero, List.set_cons_succ]
        try simp only [World.size_alloc, World.size_drew, World.size_setCell] at l21g1
        clear n21g1
        refine wpG_op (i := 7) (v := ?v21x7) rfl rfl (by rfl) (fun w hB hG K hK => ?h21x7) ?_
        case h21x7 =>
          go_wp2_with fail
          refine (HAD.out _ _ (hG.get 0 rfl)).mono ?_
          rintro e wx ⟨rfl, hbx⟩
          exact hK _ hbx
        simp only [List.set_cons_zero, List.set_cons_succ]
        refine wpG_nil (fun w21 hb21 hG21 => ?_)
        simp only [List.append_eq, List.cons_append, List.nil_append, List.drop_succ_cons, List.drop_zero, List.drop_nil]
        have u21g1 := Own.lt hG21 0 rfl
        have O21 := Own.of hG21
        try simp only [List.setIfInBounds_toArray, List.set_cons_zero, List.set_cons_succ] at O21
        have bw21 : Below w2.heap.size w2 w21 := Below.trans (by go_grown) (Below.mono hb21 (by first | omega | (simp; done) | (simp; omega)))
        have zw21 := Below.size hb21
        try simp only [World.size_alloc, World.size_drew, World.size_setCell] at zw21
        have c21x0 := Own.cell O21 0 rfl
        have f21x0 := Own.free O21 0 rfl
        have l21x0 := Own.lt O21 0 rfl
        have l21x0d0 := le_up 0 l21x0
        have l21x0d1 := le_up 1 l21x0
        simp only [upN] at l21x0d0 l21x0d1
        have c21x1 := Own.cell O21 1 rfl
        have f21x1 := Own.free O21 1 rfl
        have l21x1 := Own.lt O21 1 rfl
        have l21x1d0 := le_up 0 l21x1
        have l21x1d1 := le_up 1 l21x1
        simp only [upN] at l21x1d0 l21x1d1
        have HO21 := Lib.hid O21
        clear O21 hb21
        have hE := (((((HO21.out.get 1 rfl).set 0 (.int .u64 (L (P0 * BitVec.ofNat 256 16 + BitVec.ofNat 256 m) 0))).set 1 (.int .u64 (L (P0 * BitVec.ofNat 256 16 + BitVec.ofNat 256 m) 1))).set 2 (.int .u64 (L (P0 * BitVec.ofNat 256 16 + BitVec.ofNat 256 m) 2))).set 3 (.int .u64 (L (P0 * BitVec.ofNat 256 16 + BitVec.ofNat 256 m) 3)))
        have hG := grownBy_setr (grownBy_setr (grownBy_setr (grownBy_setr (grownBy_trans HGR.out (grownBy_below bw21 (some w.heap.size))) w.heap.size 0 (.int .u64 (L (P0 * BitVec.ofNat 256 16 + BitVec.ofNat 256 m) 0))) w.heap.size 1 (.int .u64 (L (P0 * BitVec.ofNat 256 16 + BitVec.ofNat 256 m) 1))) w.heap.size 2 (.int .u64 (L (P0 * BitVec.ofNat 256 16 + BitVec.ofNat 256 m) 2))) w.heap.size 3 (.int .u64 (L (P0 * BitVec.ofNat 256 16 + BitVec.ofNat 256 m) 3))
        have HE := Lib.hid hE
        have HGG := Lib.hid hG
        clear hE hG bw21
        go_wp2_with fail
        refine ⟨⟨k + 1, by omega, by go_num, HNX.out, ?_, HGG.out⟩, by simp only [intOf]; omega⟩
        rw [hP1, HP1.out]
        exact HE.out
    · obtain rfl : k = r.length := by omega
      have HTT := Lib.hid (HT.out hok)
      have hrs : decide (((r.length : Int)) < (R.size : Int)) = false := decide_eq_false (by omega)
      have hcc := Blk.cell hblk
      have HBB := Lib.hid (below_grownBy HB.out hgr (Nat.le_refl _) (by omega))
      have HTX := Lib.hid (fun V => wordTextW (psW r r.length) V)
      have HBK := Lib.hid hblk
      clear hblk hgr hok
      generalize hP : psW r r.length = P at *
      clear HD HT HZ HB
      go_wp2_with fail
      refine (HTX.out _).mono ?_
      rintro e w2 ⟨rfl, hb2⟩
      have hbk2 : Blk w2 w.heap.size (wc P) 26 := (hb2.block _ hl7).trans HBK.out
      have HBW2 := Lib.hid (HBB.out.trans (hb2.mono HBB.out.size))
      have hcd := Blk.cell hbk2
      have hfd := Blk.free hbk2
      have hl10 := hbk2.lt
      clear hb2 hbk2 hcc
      generalize txW P = T at *
      by_cases hT : T = s
      · have htl : (T.toList == s.toList) = true := by rw [hT]; exact beq_self_eq_true _
        have HTe := Lib.hid hT
        clear hT
        go_wp2_with fail
        refine jump_ret ?_
        refine bodyPost_ret (v := .tuple #[W P, .int .i64 0]) (by simp [results, Tryd.results15, go_sem, *]) rfl ?_
        refine ⟨by rw [HTT.out, if_pos HTe.out]; rfl, ?_⟩
        have := HBW2.out
        go_grown
      · have htl : (T.toList == s.toList) = false := by
          rw [Bool.eq_false_iff]; intro h; apply hT
          have := eq_of_beq h
          rw [ByteArray.toList_eq, ByteArray.toList_eq] at this
          exact ByteArray.ext (Array.toList_inj.1 this)
        have HTe := Lib.hid hT
        clear hT
        go_wp2_with fail
        all_goals (first | (go_step3; refine ⟨rfl, ?_⟩) | skip)
        go_wp2_with fail
        all_goals (try rw [Exit.noGoto_ret])
        refine bodyPost_ret (v := .tuple #[.agg #[.int .u64 0, .int .u64 0, .int .u64 0, .int .u64 0], .int .i64 110]) (by simp [results, Tryd.results15, go_sem, *]) rfl ?_
        refine ⟨by rw [HTT.out, if_neg HTe.out, W_zero]; rfl, ?_⟩
        have := HBW2.out
        go_grown
theorem wordParse_any (s : ByteArray) (w : World) : Calls Tryd.prog 15 #[.string s] w fun e w' => e = .returned (.tuple #[W (parseS s).1, .int .i64 ((parseS s).2 : Nat)]) ∧ Below w.heap.size w w' := by
  rcases parse_cases s with (h | ⟨h1, h2⟩) | ⟨r, he, h0⟩
  · exact parse_A s h w
  · exact parse_B s h1 h2 w
  · by_cases hl : 64 < r.length
    · exact parse_C s r he h0 hl w
    · exact parse_D s r he h0 (by omega) w
end

section
set_option maxRecDepth 20000 in
set_option maxHeartbeats 1000000 in
theorem wordRead_any (A : Option Addr) (xs : List Nat) (cap : Nat) (w : World) (hxs : SlAt w A (natC xs)) (hn : xs.length ≤ 32) (hb8 : ∀ x ∈ xs, x < 256) :
    Calls Tryd.prog 14 #[.slice A xs.length cap] w fun e w' => e = .returned (.tuple #[.agg (limbs (ob (fR xs xs.length))), .int .i64 0]) ∧ Below w.heap.size w w' := by
  have HX := Lib.hid hxs
  have HB8 := Lib.hid hb8
  clear hxs hb8
  generalize hln : xs.length = n at *
  have hd : decide ((32 : Int) < ((n : Nat) : Int)) = false := decide_eq_false (by omega)
  go_enter Tryd.func14, Tryd.ntmps14
  go_wp2_with fail
  go_loopw [13] (fun i wr => ReadRel xs w i wr) (fun i _ => n - (intOf i).toNat)
  case atStart =>
    refine ⟨0, Nat.zero_le _, rfl, ?_, ?_⟩
    · rw [fR_zero]; unfold Blk limbs; simp only [ob_none]; exact heap_alloc_new _ _
    · go_grown
  case round =>
    obtain ⟨k, hk, rfl, hblk, hb⟩ := hrel
    by_cases hlt : k < n
    · obtain ⟨c, hx⟩ : ∃ x, xs[k]? = some x := ⟨xs[k], by simp [hln, hlt]⟩
      obtain ⟨b, off, rfl, hbl, hcell⟩ := HX.out.cell (bytesC_at (k := k) (x := ((c : Nat) : Int)) (by simp [hx]))
      have hc0 : wr.cell? ⟨b, off + k, none⟩ = some (.int .u8 ((c : Nat) : Int)) := (hb.cell (p := ⟨b, off + k, none⟩) hbl).trans (hcell k _ (bytesC_at (by simp [hx])))
      obtain ⟨m, hm⟩ : ∃ m : Nat, m + k + 1 = xs.length := ⟨n - 1 - k, by omega⟩
      have hmi : ((n : Nat) : Int) - 1 - ((k : Nat) : Int) = ((m : Nat) : Int) := by omega
      have hm32 : m < 32 := by omega
      have hsz := hb.size
      have hlb := hblk.lt
      clear hcell
      go_wp2_with fail
      go_wp2_with fail
      refine wp_region_grow wr.heap.size 12 0 0 [(0, 0, 8388608, 64), (1, 1, 16777216, 8388608), (2, 2, 33554432, 16777220), (3, 4, 67108864, 33554432), (4, 0, 134217728, 32), (5, 16, 268435456, 134217728), (6, 0, 536870912, 64), (7, 64, 1073741824, 536870912), (8, 128, 2147483648, 1073741824), (9, 288, 4294967296, 2415919104), (10, 520, 8589934592, 4362076160), (11, 2047, 17179869184, 16777220), (12, 4095, 0, 25769803776)] [(.p 0, 1), (.p 1, 3), (.p 2, 7), (.p 3, 15), (.p 4, 31), (.p 5, 63), (.p 6, 127), (.p 7, 255), (.p 8, 511), (.p 9, 1023), (.p 10, 2047), (.p 11, 4095)] [(12, 8191)] _ (fun p hp => hp) (by first | omega | (simp; done) | (simp; omega)) (by kernel_rfl) (by kernel_rfl) (own1 hblk) ?_
      refine wpG_move (i := 0) rfl rfl rfl (by rfl) rfl ?_
      simp only [List.set_cons_zero, List.set_cons_succ]
      refine wpG_pure (i := 1) (v := ?v1x1) rfl rfl (by rfl) (fun w hB hG K hK => ?h1x1) ?_
      case h1x1 =>
        go_wp2_with fail
        exact hK _ (Below.refl _ _)
      simp only [List.set_cons_zero, List.set_cons_succ]
      refine wpG_pure (i := 2) (v := ?v1x2) rfl rfl (by rfl) (fun w hB hG K hK => ?h1x2) ?_
      case h1x2 =>
        go_wp2_with fail
        exact hK _ (Below.refl _ _)
      simp only [List.set_cons_zero, List.set_cons_succ]
      refine wpG_pure (i := 3) (v := ?v1x3) rfl rfl (by rfl) (fun w hB hG K hK => ?h1x3) ?_
      case h1x3 =>
        have hcx := (hG.cell 0 rfl (m / 8)).trans (limbs_at (ob (fR xs k)) (show m / 8 < 4 by omega))
        have cx := hG.cell 0 rfl
        go_wp2_with fail
        exact hK _ (Below.refl _ _)
      simp only [List.set_cons_zero, List.set_cons_succ]
      refine wpG_move (i := 4) rfl rfl rfl (by rfl) rfl ?_
      simp only [List.set_cons_zero, List.set_cons_succ]
      refine wpG_pure (i := 5) (v := ?v1x5) rfl rfl (by rfl) (fun w hB hG K hK => ?h1x5) ?_
      case h1x5 =>
        go_wp2_with fail
        exact hK _ (Below.refl _ _)
      simp only [List.set_cons_zero, List.set_cons_succ]
      refine wpG_move (i := 6) rfl rfl rfl (by rfl) rfl ?_
      simp only [List.set_cons_zero, List.set_cons_succ]
      refine wpG_pure (i := 7) (v := ?v1x7) rfl rfl (by rfl) (fun w hB hG K hK => ?h1x7) ?_
      case h1x7 =>
        go_wp2_with fail
        exact hK _ (Below.refl _ _)
      simp only [List.set_cons_zero, List.set_cons_succ]
      refine wpG_pure (i := 8) (v := ?v1x8) rfl rfl (by rfl) (fun w hB hG K hK => ?h1x8) ?_
      case h1x8 =>
        go_wp2_with fail
        exact hK _ (Below.refl _ _)
      simp only [List.set_cons_zero, List.set_cons_succ]
      refine wpG_pure (i := 9) (v := ?v1x9) rfl rfl (by rfl) (fun w hB hG K hK => ?h1x9) ?_
      case h1x9 =>
        go_wp2_with fail
        exact hK _ (Below.refl _ _)
      simp only [List.set_cons_zero, List.set_cons_succ]
      refine wpG_pure (i := 10) (v := ?v1x10) rfl rfl (by rfl) (fun w hB hG K hK => ?h1x10) ?_
      case h1x10 =>
        go_wp2_with fail
        exact hK _ (Below.refl _ _)
      simp only [List.set_cons_zero, List.set_cons_succ]
      refine wpG_pure (i := 11) (v := ?v1x11) rfl rfl (by rfl) (fun w hB hG K hK => ?h1x11) ?_
      case h1x11 =>
        go_wp2_with fail
        exact hK _ (Below.refl _ _)
      simp only [List.set_cons_zero, List.set_cons_succ]
      refine wpG_nil (fun w1 hb1 hG1 => ?_)
      simp only [List.append_eq, List.cons_append, List.nil_append, List.drop_succ_cons, List.drop_zero, List.drop_nil]
      have O1 := Own.of hG1
      try simp only [List.setIfInBounds_toArray, List.set_cons_zero, List.set_cons_succ] at O1
      have bw1 : Below wr.heap.size wr w1 := Below.trans (by go_grown) (Below.mono hb1 (by first | omega | (simp; done) | (simp; omega)))
      have zw1 := Below.size hb1
      try simp only [World.size_alloc, World.size_drew, World.size_setCell] at zw1
      have c1x0 := O1.cell 0 rfl
      have f1x0 := O1.free 0 rfl
      have l1x0 := O1.lt 0 rfl
      have l1x0d0 := le_up 0 l1x0
      have l1x0d1 := le_up 1 l1x0
      simp only [upN] at l1x0d0 l1x0d1
      have HO1 := Lib.hid O1
      clear O1 hb1

      have hcs := (HO1.out.cell 0 rfl (m / 8)).trans (limbs_at (ob (fR xs k)) (show m / 8 < 4 by omega))
      have hfs : w1.frozen? ⟨w.heap.size, m / 8, none⟩ = false := HO1.out.free 0 rfl (m / 8)
      have hbk := Blk.set (HO1.out.get 0 rfl) (m / 8) (.int .u64 ((ob (fR xs k) (m / 8) ||| sh c (8 * (m % 8)) : Nat) : Int))
      rw [limbs_set (fR_free hm) (by omega), ← fR_step hm hx] at hbk
      have hbw : Below w.heap.size w (w1.setCell ⟨w.heap.size, m / 8, none⟩ (.int .u64 ((ob (fR xs k) (m / 8) ||| sh c (8 * (m % 8)) : Nat) : Int))) := (hb.trans (bw1.mono hb.size)).setCell (Nat.le_refl _) _
      have hor := or_sh (ob_lt (fR_lt HB8.out k) (m / 8)) (HB8.out c (List.mem_of_getElem? hx)) m
      have HK := Lib.hid hbk
      have HW := Lib.hid hbw
      clear hbk hbw bw1 hc0 c1x0
      go_wp2_with fail
      exact ⟨⟨k + 1, by omega, by go_num, HK.out, HW.out⟩, by simp [intOf]; omega⟩
    · obtain rfl : k = n := by omega
      have h0 := hblk.cell 0
      have h1 := hblk.cell 1
      have h2 := hblk.cell 2
      have h3 := hblk.cell 3
      have f := hblk.free
      have HB := Lib.hid hb
      clear hb hblk
      go_wp2_with fail
      refine bodyPost_ret (v := .tuple #[.agg (limbs (ob (fR xs k))), .int .i64 0]) (by simp [results, Tryd.results14, go_sem, *]) rfl ?_
      refine ⟨rfl, ?_⟩
      have := HB.out
      go_grown
set_option maxRecDepth 20000 in
set_option maxHeartbeats 2000000 in
theorem wordRead_long (A : Option Addr) (n : Nat) (cap : Nat) (w : World) (hn : 32 < n) :
    Calls Tryd.prog 14 #[.slice A n cap] w fun e w' => e = .returned (.tuple #[.agg #[.int .u64 0, .int .u64 0, .int .u64 0, .int .u64 0], .int .i64 3]) ∧ Below w.heap.size w w' := by
  have hd : decide ((32 : Int) < ((n : Nat) : Int)) = true := decide_eq_true (by omega)
  go_enter Tryd.func14, Tryd.ntmps14
  go_wp2_with fail
  refine bodyPost_ret (v := .tuple #[.agg #[.int .u64 0, .int .u64 0, .int .u64 0, .int .u64 0], .int .i64 3]) (by simp [results, Tryd.results14, go_sem, *]) rfl ?_
  exact ⟨rfl, by go_grown⟩
end

section
/-- The bytes that are laid already. -/
def gR (xs : List Nat) (k j : Nat) : Nat := if 32 - xs.length ≤ j ∧ j < 32 - xs.length + k then xs.getD (j - (32 - xs.length)) 0 else 0
theorem gR_zero (xs : List Nat) (j : Nat) : gR xs 0 j = 0 := by unfold gR; rw [if_neg (by omega)]
theorem gR_step {xs : List Nat} {k c : Nat} (hc : xs[k]? = some c) : (fun j => if j = 32 - xs.length + k then ((c : Nat) : Int) else ((gR xs k j : Nat) : Int)) = fun j => ((gR xs (k + 1) j : Nat) : Int) := by
  funext j
  unfold gR
  by_cases hj : j = 32 - xs.length + k
  · subst hj
    rw [if_pos rfl, if_pos (by omega), show 32 - xs.length + k - (32 - xs.length) = k by omega, List.getD_eq_getElem?_getD, hc]; rfl
  · rw [if_neg hj]
    by_cases h1 : 32 - xs.length ≤ j ∧ j < 32 - xs.length + k
    · rw [if_pos h1, if_pos (by omega)]
    · rw [if_neg h1, if_neg (by omega)]
theorem gR_lt {xs : List Nat} (h : ∀ x ∈ xs, x < 256) (k j : Nat) : gR xs k j < 256 := by
  unfold gR
  split
  · rw [List.getD_eq_getElem?_getD]
    cases hq : xs[j - (32 - xs.length)]? with
    | none => simp
    | some c => exact h c (List.mem_of_getElem? hq)
  · omega
theorem fF_gR {xs : List Nat} (hn : xs.length ≤ 32) : fF (gR xs xs.length) 32 = fR xs xs.length := by
  funext j
  unfold fF gR fR
  by_cases h : j < xs.length
  · rw [if_pos (by omega), if_pos (by omega), if_pos (by omega), show 31 - j - (32 - xs.length) = xs.length - 1 - j by omega]
  · by_cases h2 : j < 32
    · rw [if_pos (by omega), if_neg (by omega), if_neg (by omega)]
    · rw [if_neg (by omega), if_neg (by omega)]
def RrRel (xs : List Nat) (w W0 : World) (i : Value) (wr : World) : Prop :=
  ∃ k : Nat, k ≤ xs.length ∧ i = .int .i64 k ∧ Blk wr (w.heap.size + 1) (arr32 fun j => ((gR xs k j : Nat) : Int)) 31 ∧ Below (w.heap.size + 1) W0 wr
set_option maxRecDepth 20000 in
set_option maxHeartbeats 2000000 in
theorem refRead_any (A : Option Addr) (xs : List Nat) (cap : Nat) (w : World) (hxs : SlAt w A (natC xs)) (hn : xs.length ≤ 32) (hb8 : ∀ x ∈ xs, x < 256) :
    Calls Tryd.prog 16 #[.slice A xs.length cap] w fun e w' => e = .returned (.tuple #[.agg (limbs (ob (fR xs xs.length))), .int .i64 0]) ∧ Below w.heap.size w w' := by
  have hfr := fun W => refFrom_any (gR xs xs.length) W (gR_lt hb8 xs.length)
  rw [fF_gR hn] at hfr
  have HFR := Lib.hid hfr
  have HX := Lib.hid hxs
  clear hxs hb8 hfr
  generalize hln : xs.length = n at *
  have hd : decide ((32 : Int) < ((n : Nat) : Int)) = false := decide_eq_false (by omega)
  go_enter Tryd.func16, Tryd.ntmps16
  go_wp2_with fail
  go_loopw [5] (fun i wr => RrRel xs w (w.alloc (.cells zeroW 26)) i wr) (fun i _ => n - (intOf i).toNat)
  case atStart =>
    refine ⟨0, Nat.zero_le _, rfl, ?_, ?_⟩
    · simp only [gR_zero]
      have h := heap_alloc_new (w.alloc (.cells zeroW 26)) (.cells (arr32 fun _ => 0) 31)
      rw [show (w.alloc (.cells zeroW 26)).heap.size = w.heap.size + 1 by simp] at h
      exact h
    · exact (Below.refl _ _).alloc (by simp) _
  case round =>
    obtain ⟨k, hk, rfl, hblk, hb⟩ := hrel
    have hsz := hb.size
    simp only [World.size_alloc] at hsz
    by_cases hlt : k < n
    · obtain ⟨c, hx⟩ : ∃ x, xs[k]? = some x := ⟨xs[k], by simp [hln, hlt]⟩
      obtain ⟨b, off, rfl, hbl, hcell⟩ := HX.out.cell (bytesC_at (k := k) (x := ((c : Nat) : Int)) (by simp [hx]))
      have hc0 : wr.cell? ⟨b, off + k, none⟩ = some (.int .u8 ((c : Nat) : Int)) := (hb.cell (p := ⟨b, off + k, none⟩) (by simp; omega)).trans (kept (World.below_alloc _ _) (hcell k _ (bytesC_at (by simp [hx]))))
      obtain ⟨m, hm⟩ : ∃ m : Nat, m = 32 - xs.length + k := ⟨_, rfl⟩
      have hcs := (hblk.cell m).trans (arr32_at (fun j => ((gR xs k j : Nat) : Int)) (show m < 32 by omega))
      have hfs := hblk.free m
      have hbk := Blk.set hblk m (.int .u8 ((c : Nat) : Int))
      rw [arr32_set, hm, gR_step hx, ← hm] at hbk
      have hbw : Below (w.heap.size + 1) (w.alloc (.cells zeroW 26)) (wr.setCell ⟨w.heap.size + 1, m, none⟩ (.int .u8 ((c : Nat) : Int))) := hb.setCell (Nat.le_refl _) _
      rw [hln] at hm
      have hm32 : m < 32 := by omega
      subst hm
      have HK := Lib.hid hbk
      have HW := Lib.hid hbw
      clear hbk hbw hblk hb hcell
      go_wp2_with fail
      exact ⟨⟨k + 1, by omega, by go_num, HK.out, HW.out⟩, by simp [intOf]; omega⟩
    · obtain rfl : k = n := by omega
      have hc2 : ∀ o, wr.cell? ⟨w.heap.size, o, none⟩ = zeroW[o]? := fun o => by
        rw [hb.cell (p := ⟨w.heap.size, o, none⟩) (by simp), World.cell?_alloc_at _ _ _ _ rfl]
      have hf2 : ∀ o, wr.frozen? ⟨w.heap.size, o, none⟩ = false := fun o => by
        rw [hb.frozen (p := ⟨w.heap.size, o, none⟩) (by simp)]; exact World.frozen?_alloc_new w _ _ o
      have hu : Tryd.prog.underlying 31 = some (.array 32 5) := by kernel_rfl
      have hi : (Tryd.prog.info? 31).map (·.size) = some 32 := by kernel_rfl
      have HB := Lib.hid hb
      have H3 := Lib.hid hblk
      have HU := Lib.hid hu
      have HI := Lib.hid hi
      clear hb hblk hu hi
      go_wp2_with (first | (refine wpList_load_row rfl 31 (.tmp 4) (by with_reducible rfl) _ rfl _ _ (0, 0) _ H3.out HU.out rfl HI.out ?_))
      refine (HFR.out _).mono ?_
      rintro e w2 ⟨rfl, hb2⟩
      have hd2 : ∀ o, w2.cell? ⟨w.heap.size, o, none⟩ = zeroW[o]? := fun o => (hb2.cell (p := ⟨w.heap.size, o, none⟩) (by simp; omega)).trans (hc2 o)
      have hg2 : ∀ o, w2.frozen? ⟨w.heap.size, o, none⟩ = false := fun o => (hb2.frozen (p := ⟨w.heap.size, o, none⟩) (by simp; omega)).trans (hf2 o)
      have hbw : Below w.heap.size w w2 := ((World.below_alloc w _).trans (HB.out.mono (by omega))).trans (hb2.mono (by omega))
      clear hc2 hf2 hb2
      go_wp2_with fail
      refine bodyPost_ret (v := .tuple #[.agg (limbs (ob (fR xs k))), .int .i64 0]) (by simp [results, Tryd.results16, go_sem, *]) rfl ?_
      refine ⟨rfl, ?_⟩
      go_grown
set_option maxRecDepth 20000 in
set_option maxHeartbeats 2000000 in
theorem refRead_long (A : Option Addr) (n : Nat) (cap : Nat) (w : World) (hn : 32 < n) :
    Calls Tryd.prog 16 #[.slice A n cap] w fun e w' => e = .returned (.tuple #[.agg #[.int .u64 0, .int .u64 0, .int .u64 0, .int .u64 0], .int .i64 3]) ∧ Below w.heap.size w w' := by
  have hd : decide ((32 : Int) < ((n : Nat) : Int)) = true := decide_eq_true (by omega)
  go_enter Tryd.func16, Tryd.ntmps16
  go_wp2_with fail
  refine bodyPost_ret (v := .tuple #[.agg #[.int .u64 0, .int .u64 0, .int .u64 0, .int .u64 0], .int .i64 3]) (by simp [results, Tryd.results16, go_sem, *]) rfl ?_
  exact ⟨rfl, by go_grown⟩
end
end Go.Proofs.YtmbaimgncljmnaaDoor
