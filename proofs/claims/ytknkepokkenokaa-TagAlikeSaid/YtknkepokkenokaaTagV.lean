/- Known: what it gives. -/
import Derived.Test.YtknkepokkenokaaTagU
import Derived.Laws.Cover3
set_option linter.unusedVariables false
set_option linter.unusedSimpArgs false
namespace Go.Proofs.Ytknkepokkenokaa
open Go.RowKit

theorem cellsC_one (l : List (Int × Int)) : ∀ u ∈ cellsC l, u.oneCell' = true := fun u hu => by
  obtain ⟨c, _, hc⟩ := List.mem_flatMap.1 hu
  simp [cellC] at hc; rcases hc with rfl | rfl <;> rfl
theorem eql_nil (A : Option Addr) (n c : Nat) (w : World) : (binOp .eql 22 (.slice A n c) (.slice none 0 0)).run Try.prog w = .ok (.bool A.isNone) w := by
  simp only [binOp]
  simp [run_equal_slice_nil w 22 55 A n c under_cells]
set_option maxHeartbeats 1000000 in
set_option maxRecDepth 20000 in
theorem clone_any (A : Option Addr) (xs : List (Int × Int)) (cap : Nat) (w : World) (hS : SlAt w A (cellsC xs)) (hcap : xs.length ≤ cap) (hn : xs.length ≤ 100000) (hnil : A = none → xs = [] ∧ cap = 0) :
    Calls Try.prog 48 #[.slice A xs.length cap] w (Gives w (cellsC xs) xs.length) := by
  obtain ⟨i0, hi, hz0, hz1, hz2⟩ := info_parts tinfo_cell
  rcases A with _ | A
  · obtain ⟨h1, h2⟩ := hnil rfl
    subst h1; subst h2
    simp only [List.length_nil]
    have hq := eql_nil none 0 0
    go_enter Try.func48, Try.ntmps48
    go_wp2_with fail
    go_ret
    exact ⟨_, _, rfl, .inl rfl, Nat.le_refl _, Below.refl _ _, givesT_of_owns (World.ownsRow_nil w w.heap.size 55 2)⟩
  · have HS := Lib.hid (hS.grow (World.below_alloc w (.cells #[] 55)))
    have hown : (w.alloc (.cells #[] 55)).ownsRow w.heap.size 55 2 (.slice (some ⟨w.heap.size, 0, none⟩) 0 0) 0 [] := World.ownsRow_made w #[] 0 (Nat.le_refl _) (Nat.zero_le _) rfl
    have HO := Lib.hid hown
    have HL := Lib.hid (cellsC_len xs)
    have H1 := Lib.hid (cellsC_one xs)
    have hq := eql_nil (some A) xs.length cap
    clear hS hnil hown
    generalize hln : xs.length = n at *
    go_enter Try.func48, Try.ntmps48
    go_wp2_with (first | (at_builtin; refine wpList_append_own _ rfl _ _ 22 rfl w.heap.size 55 i0 _ 2 16 under_cells hi hz0 hz1 hz2 rfl (by decide) _ _ _ rfl HO.out A n cap (cellsC xs) rfl HL.out (fun j u hu => ?cells) H1.out (by simp only [maxLen]; omega) (by omega) (by simp) ?_))
    case cells =>
      obtain ⟨b', off', hA, _, hcs⟩ := HS.out.cell hu
      cases hA
      rw [Addr.add_lit]
      exact hcs j u hu
    intro v w3 hown3 hg3 _
    have hb3 : Below w.heap.size w w3 := (World.below_alloc w (.cells #[] 55)).grown hg3 (by simp) (fun k e => by cases e; exact Nat.le_refl _)
    try rw [Nat.zero_add] at hown3
    try rw [List.nil_append] at hown3
    obtain ⟨A', c', rfl, hs, hc, hT⟩ := slice_of_owns hown3
    have HB := Lib.hid hb3
    have HSS := Lib.hid hs
    clear hown3 hg3 hb3 hs
    try rw [Nat.zero_add]
    go_wp2_with fail
    go_ret
    exact ⟨_, _, rfl, HSS.out, hc, HB.out, hT⟩
theorem FreshT.block {base n : Nat} {cs : List Value} {A : Option Addr} {c : Nat} {w : World} (h : FreshT base cs n (.slice A n c) w) (hne : cs ≠ []) {b off : Nat} (hA : A = some ⟨b, off, none⟩) : base ≤ b := by
  obtain ⟨T, ⟨A', c', hv, _, hT⟩, hO, hfr⟩ := h
  cases hv
  subst hA
  rcases Nat.lt_or_ge b base with hlt | hge
  · exfalso
    have hO' : Own T (w.putObj b (.deferred none)) := fun p hp => (World.putObj_heap_other (by have := hfr p hp; omega)).trans (hO p hp)
    rcases hT _ hO' with h | ⟨b', off', hb, hlt', hc⟩
    · exact hne h
    · cases hb
      obtain ⟨u, r, hu⟩ := List.exists_cons_of_ne_nil hne
      have h0 := hc 0 u (by rw [hu]; rfl)
      have hsz : b < w.heap.size := by simpa [World.putObj] using hlt'
      unfold World.cell? at h0
      rw [World.putObj_heap_same hsz] at h0
      cases h0
  · exact hge
/-- What Known gives: a function that goes over what is known, as long as these blocks stay. -/
def KnownAt (up : Int) (xs : List (Int × Int)) (base : Nat) (e : Ending) (w' : World) : Prop :=
  ∃ b b2 : Nat, e = .returned (.func (.func 49) #[] #[.pointer (some ⟨b, 0, none⟩), .pointer (some ⟨b2, 0, none⟩)]) ∧ Seq Try.prog 49 #[.pointer (some ⟨b, 0, none⟩), .pointer (some ⟨b2, 0, none⟩)] encK (knownL up xs) (fun k => base ≤ k ∧ k < w'.heap.size) w'
set_option maxRecDepth 20000 in
theorem knownF_any (A : Option Addr) (xs : List (Int × Int)) (cap : Nat) (up : Int) (w : World) (hS : SlAt w A (cellsC xs)) (hcap : xs.length ≤ cap) (hn : xs.length ≤ 100000) (hnil : A = none → xs = [] ∧ cap = 0) :
    Calls Try.prog 26 #[.slice A xs.length cap, .int .u64 up] w fun e w' => KnownAt up xs w.heap.size e w' ∧ Below w.heap.size w w' := by
  have HC := Lib.hid (clone_any A xs cap (w.alloc (.cells #[.int .u64 up] 35)) (hS.grow (World.below_alloc _ _)) hcap hn hnil)
  have HK := Lib.hid (fun b b2 A' cap' V S hc hu hS hcap hb hb2 hA => known1_seq b b2 A' xs cap' up V S hc hu hS hcap hn hb hb2 hA)
  clear hS hnil
  generalize hln : xs.length = n at *
  go_enter Try.func26, Try.ntmps26
  go_wp2_with fail
  refine HC.out.mono ?_
  rintro e w2 ⟨A', c', rfl, hs, hc, hb, hfr⟩
  have hz := hb.size
  rw [World.size_alloc] at hz
  have hb0 : Below w.heap.size w w2 := (World.below_alloc w _).trans (hb.mono (by simp))
  have hu : w2.cell? ⟨w.heap.size, 0, none⟩ = some (.int .u64 up) := kept hb (newc _ _ _ _ rfl)
  have HB0 := Lib.hid hb0
  have HU := Lib.hid hu
  have HS2 := Lib.hid hs
  have hfresh : cellsC xs ≠ [] → ∀ b off, A' = some ⟨b, off, none⟩ → w.heap.size ≤ b := fun hne b off h => by have := hfr.block hne h; simp at this; omega
  clear hb hu hs hb0
  go_wp2_with fail
  go_ret
  refine ⟨⟨_, _, rfl, HK.out _ _ A' c' _ _ (newc _ _ _ _ rfl) (kept (World.below_alloc _ _) HU.out) (HS2.out.grow (World.below_alloc _ _)) hc ⟨by omega, by simp⟩ ⟨Nat.le_refl _, by simp; omega⟩ (fun hne b off h => ?_)⟩, ?_⟩
  · refine ⟨hfresh hne b off h, ?_⟩
    rcases HS2.out with hz' | ⟨b', off', hA, hl, _⟩
    · exact absurd hz' hne
    · rw [hA] at h; cases h; simp; omega
  · exact HB0.out.trans ((World.below_alloc w2 _).mono HB0.out.size)
end Go.Proofs.Ytknkepokkenokaa
