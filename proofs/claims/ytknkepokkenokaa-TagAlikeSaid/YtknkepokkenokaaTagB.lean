/- Walks of package tag: Of, Bytes, Join, Label. -/
import Derived.Test.YtknkepokkenokaaTagA
import Derived.Deep.Onto
set_option linter.unusedVariables false
set_option linter.unusedSimpArgs false
namespace Go.Proofs.Ytknkepokkenokaa
open Go.RowKit

/-- What a call that gives a list leaves behind, as blocks: whatever order they come in. -/
def GivesT (cs : List Value) (n : Nat) (v : Value) (T : List Block) : Prop := ∃ A c, v = .slice A n c ∧ n ≤ c ∧ ∀ w, Own T w → SlAt w A cs
theorem givesT_of_owns {w : World} {base : Nat} {e : TypeId} {size n : Nat} {v : Value} {xs : List Value} (h : w.ownsRow base e size v n xs) : ∃ T, GivesT xs n v T ∧ Own T w ∧ ∀ p, p ∈ T → base ≤ p.1 := by
  rcases h.2 with ⟨hv, hn⟩ | ⟨g, cap', cur, hv, hbg, hh, hnc, hcm, hcs, htake⟩
  · subst hv; subst hn
    refine ⟨[], ⟨_, _, rfl, Nat.le_refl _, fun w _ => .inl (List.eq_nil_of_length_eq_zero (by simpa using h.1))⟩, fun p hp => (by simp at hp), fun p hp => (by simp at hp)⟩
  · subst hv
    refine ⟨[(g, cur, e)], ⟨_, _, rfl, hnc, fun w hw => ?_⟩, (fun p hp => by simp at hp; subst hp; exact hh), fun p hp => by simp at hp; subst hp; exact hbg⟩
    have hb : Blk w g cur e := hw.get 0 rfl
    refine .inr ⟨g, 0, rfl, hb.lt, fun j u hu => ?_⟩
    rw [Nat.zero_add, hb.cell]
    have hj : j < n * size := by rw [← h.1]; exact (List.getElem?_eq_some_iff.1 hu).1
    rw [← htake, List.getElem?_take, if_pos hj] at hu
    simpa using hu
/-- What is given lies in new blocks. -/
def FreshT (base : Nat) (cs : List Value) (n : Nat) (v : Value) (w : World) : Prop := ∃ T, GivesT cs n v T ∧ Own T w ∧ ∀ p, p ∈ T → base ≤ p.1
theorem FreshT.mono {base base' : Nat} {cs : List Value} {n : Nat} {v : Value} {w : World} (h : FreshT base cs n v w) (hb : base' ≤ base) : FreshT base' cs n v w := by
  obtain ⟨T, h1, h2, h3⟩ := h
  exact ⟨T, h1, h2, fun p hp => Nat.le_trans hb (h3 p hp)⟩
/-- The call has given a list. -/
def Gives (w : World) (cs : List Value) (n : Nat) (e : Ending) (w' : World) : Prop := ∃ A c, e = .returned (.slice A n c) ∧ SlAt w' A cs ∧ n ≤ c ∧ Below w.heap.size w w' ∧ FreshT w.heap.size cs n (.slice A n c) w'
theorem slice_of_owns {w : World} {base : Nat} {e : TypeId} {size n : Nat} {v : Value} {xs : List Value} (h : w.ownsRow base e size v n xs) : ∃ A c, v = .slice A n c ∧ SlAt w A xs ∧ n ≤ c ∧ FreshT base xs n v w := by
  rcases h.2 with ⟨hv, hn⟩ | ⟨g, cap', cur, hv, hbg, hh, hnc, hcm, hcs, htake⟩
  · subst hv; subst hn
    exact ⟨_, _, rfl, SlAt.of_owns h, Nat.le_refl _, givesT_of_owns h⟩
  · subst hv
    exact ⟨_, _, rfl, SlAt.of_owns h, hnc, givesT_of_owns h⟩

/-! ### What is done with each. -/
theorem of1_any (b : Nat) (x a : Int) (w : World) (hc : w.cell? ⟨b, 0, none⟩ = some (.int .u64 a)) :
    Calls Try.prog 33 #[.int .u8 x, .pointer (some ⟨b, 0, none⟩)] w fun e w' => e = .returned (.agg #[.int .u8 x, .int .u64 a]) ∧ Below w.heap.size w w' := by
  have hlt : b < w.heap.size := World.block_lt_of_cell? w ⟨b, 0, none⟩ hc
  have hc1 : ∀ o : Obj, (w.alloc o).cell? ⟨b, 0, none⟩ = some (.int .u64 a) := fun o => kept (World.below_alloc w o) hc
  go_enter Try.func33, Try.ntmps33
  go_wp2_with fail
  refine bodyPost_ret (v := .agg #[.int .u8 x, .int .u64 a]) (by simp [results, Try.results33, go_sem, *]) rfl ?_
  exact ⟨rfl, by go_grown⟩
theorem bytes1_any (x a : Int) (w : World) :
    Calls Try.prog 35 #[.agg #[.int .u8 x, .int .u64 a]] w fun e w' => e = .returned (.int .u8 x) ∧ Below w.heap.size w w' := by
  go_enter Try.func35, Try.ntmps35
  go_wp2_with fail
  go_ret
  exact ⟨rfl, by go_grown⟩
theorem label1_any (x a : Int) (w : World) :
    Calls Try.prog 53 #[.agg #[.int .u8 x, .int .u64 a]] w fun e w' => e = .returned (.int .u64 a) ∧ Below w.heap.size w w' := by
  go_enter Try.func53, Try.ntmps53
  go_wp2_with fail
  go_ret
  exact ⟨rfl, by go_grown⟩

/-! ### Lists. -/
theorem ofs_any (A : Option Addr) (xs : List Int) (cap : Nat) (a : Int) (w : World) (hxs : SlAt w A (bytesC xs)) (hcap : xs.length ≤ cap) (hn : xs.length ≤ 100000) :
    Calls Try.prog 12 #[.slice A xs.length cap, .int .u64 a] w (Gives w (cellsC (xs.map fun x => (x, a))) xs.length) := by
  have HF := Lib.hid (fun (W : World) (hW : SlAt W A (bytesC xs)) (hc : W.cell? ⟨w.heap.size, 0, none⟩ = some (.int .u64 a)) => madeBC_any 33 #[.pointer (some ⟨w.heap.size, 0, none⟩)] (fun x => (x, a)) A xs cap W hW hcap hn (enters_of Try.func33 (by kernel_rfl) rfl) (fun x _ V hV => of1_any w.heap.size x a V (kept hV hc)))
  go_enter Try.func12, Try.ntmps12
  go_wp2_with fail
  refine (HF.out _ (hxs.grow (World.below_alloc w _)) (newc _ _ _ _ rfl)).mono ?_
  rintro e w2 ⟨v, rfl, hown, hb⟩
  obtain ⟨A', c', rfl, hs, hc, hT⟩ := slice_of_owns hown
  have hbw := (World.below_alloc w _).trans (hb.mono (World.below_alloc w _).size)
  clear hown hb
  go_wp2_with fail
  go_ret
  exact ⟨_, _, rfl, hs, hc, hbw, hT.mono (by first | omega | (simp; done) | (simp; omega))⟩
theorem bytes_any (A : Option Addr) (xs : List (Int × Int)) (cap : Nat) (w : World) (hxs : SlAt w A (cellsC xs)) (hcap : xs.length ≤ cap) (hn : xs.length ≤ 100000) :
    Calls Try.prog 14 #[.slice A xs.length cap] w (Gives w (bytesC (xs.map Prod.fst)) xs.length) := by
  have HF := Lib.hid (madeCB_any 35 #[] (fun x => x.1) A xs cap w hxs hcap hn (enters_of Try.func35 (by kernel_rfl) rfl) (fun x _ V hV => bytes1_any x.1 x.2 V))
  clear hxs
  go_enter Try.func14, Try.ntmps14
  go_wp2_with fail
  refine HF.out.mono ?_
  rintro e w2 ⟨v, rfl, hown, hb⟩
  obtain ⟨A', c', rfl, hs, hc, hT⟩ := slice_of_owns hown
  clear hown
  go_wp2_with fail
  go_ret
  exact ⟨_, _, rfl, hs, hc, hb, hT⟩
theorem clabel_any (A : Option Addr) (xs : List (Int × Int)) (cap : Nat) (w : World) (hxs : SlAt w A (cellsC xs)) (hcap : xs.length ≤ cap) (hn : xs.length ≤ 100000) :
    Calls Try.prog 36 #[.slice A xs.length cap] w fun e w' => e = .returned (.int .u64 (joinL 0 (xs.map Prod.snd))) ∧ Below w.heap.size w w' := by
  have HF := Lib.hid (madeCL_any 53 #[] (fun x => x.2) A xs cap w hxs hcap hn (enters_of Try.func53 (by kernel_rfl) rfl) (fun x _ V hV => label1_any x.1 x.2 V))
  clear hxs
  have hl : (xs.map Prod.snd).length = xs.length := by simp
  generalize xs.length = n at *
  go_enter Try.func36, Try.ntmps36
  go_wp2_with fail
  refine HF.out.mono ?_
  rintro e w2 ⟨v, rfl, hown, hb⟩
  obtain ⟨A', c', rfl, hs, hc, hT⟩ := slice_of_owns hown
  have HJ := Lib.hid (joinL_any A' (xs.map Prod.snd) c' w2 hs (by omega) (by omega))
  rw [hl] at HJ
  clear hown hs
  go_wp2_with fail
  refine HJ.out.mono ?_
  rintro e w3 ⟨rfl, rfl⟩
  go_wp2_with fail
  go_ret
  exact ⟨rfl, hb⟩
theorem label_any (A : Option Addr) (xs : List (Int × Int)) (cap : Nat) (w : World) (hxs : SlAt w A (cellsC xs)) (hcap : xs.length ≤ cap) (hn : xs.length ≤ 100000) :
    Calls Try.prog 16 #[.slice A xs.length cap] w fun e w' => e = .returned (.int .u64 (joinL 0 (xs.map Prod.snd))) ∧ Below w.heap.size w w' := by
  have HF := Lib.hid (clabel_any A xs cap w hxs hcap hn)
  clear hxs
  have hfl : ∀ W : World, (Instr.field 60 (.agg #[.slice A xs.length cap]) 0).run Try.prog W = .ok (.slice A xs.length cap) W := fun _ => by kernel_rfl
  generalize xs.length = n at *
  go_enter Try.func16, Try.ntmps16
  go_wp2_with fail
  refine HF.out.mono ?_
  rintro e w3 ⟨rfl, hb⟩
  go_wp2_with fail
  go_ret
  exact ⟨rfl, hb⟩
end Go.Proofs.Ytknkepokkenokaa
