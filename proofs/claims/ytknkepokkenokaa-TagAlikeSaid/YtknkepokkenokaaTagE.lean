/- Walks of the document's answers on cells: Of, Bytes, Label, Join. -/
import Derived.Test.YtknkepokkenokaaTagD
set_option linter.unusedVariables false
set_option linter.unusedSimpArgs false
namespace Go.Proofs.Ytknkepokkenokaa
open Go.RowKit

set_option maxRecDepth 20000 in
set_option maxHeartbeats 1000000 in
theorem refOf_any (A : Option Addr) (xs : List (Int)) (cap : Nat) (a : Int) (w : World) (hxs : SlAt w A (bytesC xs)) (hcap : xs.length ≤ cap) (hn : xs.length ≤ 100000) :
    Calls Try.prog 13 #[.slice A xs.length cap, .int .u64 a] w (Gives w (cellsC (xs.map (fun x => (x, a)))) xs.length) := by
  obtain ⟨i0, hi, hz0, hz1, hz2⟩ := info_parts tinfo_cell
  have HX := Lib.hid hxs
  clear hxs
  generalize hln : xs.length = n at *
  go_enter Try.func13, Try.ntmps13
  go_wp2_with fail
  go_loopw [5, 6] (fun v i wr => MadeRel w.heap.size 55 2 n w (fun k => cellsC ((xs.map (fun x => (x, a))).take k)) v i wr) (fun _ i _ => n - (intOf i).toNat)
  case atStart => exact ⟨0, Nat.zero_le _, rfl, by simpa [cellsC] using World.ownsRow_nil w w.heap.size 55 2, Below.refl _ _⟩
  case round =>
    obtain ⟨k, hk, rfl, hown, hb⟩ := hrel
    by_cases hlt : k < n
    · obtain ⟨x, hx⟩ : ∃ x, xs[k]? = some x := ⟨xs[k], by simp [hln, hlt]⟩
      obtain ⟨b, off, rfl, hbl, hcell⟩ := HX.out.cell (bytesC_at (j := 0) hx (by rfl))
      have hc0 : wr.cell? ⟨b, off + k, none⟩ = some (.int .u8 x) := (hb.cell (p := ⟨b, off + k, none⟩) hbl).trans (by have := hcell (k) _ (bytesC_at (j := 0) hx (by rfl)); simpa [Nat.add_assoc] using this)
      have hsz := hb.size
      clear hcell
      go_wp2_with (first | (at_builtin; refine wpList_append_own _ rfl _ _ 22 rfl w.heap.size 55 i0 _ 2 16 under_cells hi hz0 hz1 hz2 rfl (by decide) _ _ _ rfl (hown.alloc _) ⟨wr.heap.size, 0, none⟩ 1 1 (cellC ((fun x => (x, a)) x)) rfl rfl (news_at _ _ _) (by simp [cellC, Value.oneCell']) (by simp only [maxLen]; omega) (by omega) (by first | omega | (simp; omega)) ?_))
      intro v3 w3 hown3 hg3 _
      have hb3 : Below w.heap.size w w3 := below_grown (hb.alloc hb.size _) (hown.alloc _) hg3 (by simp; omega) (Nat.le_refl _)
      have hown4 : w3.ownsRow w.heap.size 55 2 v3 (k + 1) (cellsC ((xs.map (fun x => (x, a))).take (k + 1))) := by
        rw [cellsC_take (x := (fun x => (x, a)) x) (by simp [hx])]; exact hown3
      clear hown3 hg3 hc0 hsz hown hb
      go_wp2_with fail
      exact ⟨⟨k + 1, by omega, by go_num, hown4, hb3⟩, by simp [intOf]; omega⟩
    · obtain rfl : k = n := by omega
      dsimp only at hown
      rw [List.take_of_length_le (by simp [hln])] at hown
      obtain ⟨A', c', rfl, hs, hc, hT⟩ := slice_of_owns hown
      clear hown
      go_wp2_with fail
      go_ret
      exact ⟨_, _, rfl, hs, hc, hb, hT⟩
set_option maxRecDepth 20000 in
set_option maxHeartbeats 1000000 in
theorem refBytes_any (A : Option Addr) (xs : List (Int × Int)) (cap : Nat)  (w : World) (hxs : SlAt w A (cellsC xs)) (hcap : xs.length ≤ cap) (hn : xs.length ≤ 100000) :
    Calls Try.prog 15 #[.slice A xs.length cap] w (Gives w (bytesC (xs.map (fun x => x.1))) xs.length) := by
  obtain ⟨i0, hi, hz0, hz1, hz2⟩ := info_parts tinfo_byte
  have HX := Lib.hid hxs
  clear hxs
  generalize hln : xs.length = n at *
  go_enter Try.func15, Try.ntmps15
  go_wp2_with fail
  go_loopw [3, 4] (fun v i wr => MadeRel w.heap.size 5 1 n w (fun k => bytesC ((xs.map (fun x => x.1)).take k)) v i wr) (fun _ i _ => n - (intOf i).toNat)
  case atStart => exact ⟨0, Nat.zero_le _, rfl, by simpa [bytesC] using World.ownsRow_nil w w.heap.size 5 1, Below.refl _ _⟩
  case round =>
    obtain ⟨k, hk, rfl, hown, hb⟩ := hrel
    by_cases hlt : k < n
    · obtain ⟨x, hx⟩ : ∃ x, xs[k]? = some x := ⟨xs[k], by simp [hln, hlt]⟩
      obtain ⟨b, off, rfl, hbl, hcell⟩ := HX.out.cell (cellsC_at (j := 0) hx (by rfl))
      have hc0 : wr.cell? ⟨b, off + k * 2, none⟩ = some (.int .u8 x.1) := (hb.cell (p := ⟨b, off + k * 2, none⟩) hbl).trans (by have := hcell (k * 2) _ (cellsC_at (j := 0) hx (by rfl)); simpa [Nat.add_assoc] using this)
      have hsz := hb.size
      clear hcell
      go_wp2_with (first | (at_builtin; refine wpList_append_own _ rfl _ _ 31 rfl w.heap.size 5 i0 _ 1 1 under_bytes hi hz0 hz1 hz2 rfl (by decide) _ _ _ rfl (hown.alloc _) ⟨wr.heap.size, 0, none⟩ 1 1 (byteC ((fun x => x.1) x)) rfl rfl (news_at _ _ _) (by simp [byteC, Value.oneCell']) (by simp only [maxLen]; omega) (by omega) (by first | omega | (simp; omega)) ?_))
      intro v3 w3 hown3 hg3 _
      have hb3 : Below w.heap.size w w3 := below_grown (hb.alloc hb.size _) (hown.alloc _) hg3 (by simp; omega) (Nat.le_refl _)
      have hown4 : w3.ownsRow w.heap.size 5 1 v3 (k + 1) (bytesC ((xs.map (fun x => x.1)).take (k + 1))) := by
        rw [bytesC_take (x := (fun x => x.1) x) (by simp [hx])]; exact hown3
      clear hown3 hg3 hc0 hsz hown hb
      go_wp2_with fail
      exact ⟨⟨k + 1, by omega, by go_num, hown4, hb3⟩, by simp [intOf]; omega⟩
    · obtain rfl : k = n := by omega
      dsimp only at hown
      rw [List.take_of_length_le (by simp [hln])] at hown
      obtain ⟨A', c', rfl, hs, hc, hT⟩ := slice_of_owns hown
      clear hown
      go_wp2_with fail
      go_ret
      exact ⟨_, _, rfl, hs, hc, hb, hT⟩

def LabRel2 (xs : List (Int × Int)) (w : World) (v i : Value) (wr : World) : Prop := ∃ k : Nat, k ≤ xs.length ∧ v = .int .u64 (joinL 0 ((xs.map Prod.snd).take k)) ∧ i = .int .i64 k ∧ w = wr
set_option maxRecDepth 20000 in
theorem refLabel_any (A : Option Addr) (xs : List (Int × Int)) (cap : Nat) (w : World) (hxs : SlAt w A (cellsC xs)) (hcap : xs.length ≤ cap) (hn : xs.length ≤ 100000) :
    Calls Try.prog 17 #[.slice A xs.length cap] w fun e w' => e = .returned (.int .u64 (joinL 0 (xs.map Prod.snd))) ∧ w = w' := by
  have HX := Lib.hid hxs
  clear hxs
  generalize hln : xs.length = n at *
  go_enter Try.func17, Try.ntmps17
  go_wp2_with fail
  go_loopw [3, 4] (fun v i wr => LabRel2 xs w v i wr) (fun _ i _ => n - (intOf i).toNat)
  case atStart => exact ⟨0, Nat.zero_le _, rfl, rfl, rfl⟩
  case round =>
    obtain ⟨k, hk, rfl, rfl, rfl⟩ := hrel
    by_cases hlt : k < n
    · obtain ⟨x, hx⟩ : ∃ x, xs[k]? = some x := ⟨xs[k], by simp [hln, hlt]⟩
      obtain ⟨b, off, rfl, hbl, hcell⟩ := HX.out.cell (cellsC_at (j := 0) hx (by rfl))
      have hc1 : w.cell? ⟨b, off + k * 2 + 1, none⟩ = some (.int .u64 x.2) := by have := hcell (k * 2 + 1) _ (cellsC_at (j := 1) hx (by rfl)); simpa [Nat.add_assoc] using this
      have hj : orI (joinL 0 ((xs.map Prod.snd).take k)) x.2 = joinL 0 ((xs.map Prod.snd).take (k + 1)) := by rw [List.take_add_one, List.getElem?_map, hx]; simp [joinL]
      have HJ := Lib.hid hj
      clear hcell hj
      go_wp2_with fail
      refine (refJoin_any _ _ _).mono ?_
      rintro e w2 ⟨rfl, rfl⟩
      go_wp2_with fail
      exact ⟨⟨k + 1, by omega, by rw [← HJ.out]; rfl, by go_num, rfl⟩, by simp [intOf]; omega⟩
    · obtain rfl : k = n := by omega
      rw [List.take_of_length_le (by simp [hln])]
      go_wp2_with fail
      go_ret
      exact ⟨rfl, rfl⟩
end Go.Proofs.Ytknkepokkenokaa
