/- Walks: Word, and the document's. -/
import Derived.Test.YtknkepokkenokaaTagK
set_option linter.unusedVariables false
set_option linter.unusedSimpArgs false
namespace Go.Proofs.Ytknkepokkenokaa
open Go.RowKit

theorem own2 {w : World} {b b' : Nat} {c c' : Array Value} {t t' : TypeId} (h : Blk w b c t) (h' : Blk w b' c' t') : Own [(b, c, t), (b', c', t')] w := fun p hp => by
  simp at hp; rcases hp with rfl | rfl <;> assumption
def nats (l : List (Int × Int)) : List Nat := l.map fun c => c.1.toNat
theorem natC_nats {l : List (Int × Int)} (h : ∀ c ∈ l, 0 ≤ c.1 ∧ c.1 < 256) : bytesC (l.map Prod.fst) = natC (nats l) := by
  unfold natC nats
  rw [List.map_map]
  congr 1
  exact List.map_congr_left fun c hc => by have := (h c hc).1; simp; omega
theorem nats_lt {l : List (Int × Int)} (h : ∀ c ∈ l, 0 ≤ c.1 ∧ c.1 < 256) : ∀ x ∈ nats l, x < 256 := fun x hx => by
  obtain ⟨c, hc, rfl⟩ := List.mem_map.1 hx
  have := h c hc
  omega
theorem partL_in {xs : List (Int × Int)} {p m : Nat} {q : Int × Int → Prop} (h : ∀ c ∈ xs, q c) (h0 : q (0, 0)) : ∀ c ∈ partL xs p m, q c := fun c hc => by
  rcases List.mem_append.1 hc with hc | hc
  · exact h c (List.mem_of_mem_drop (List.mem_of_mem_take hc))
  · rw [List.eq_of_mem_replicate hc]; exact h0
/-- The value of cells. -/
def wordX (xs : List (Int × Int)) : Nat → Nat := ob (fR (nats (partL xs 0 32)) 32)
def wordL (xs : List (Int × Int)) : Int := joinL 0 ((partL xs 0 32).map Prod.snd)
abbrev zeroV : Array Value := #[.int .u64 0, .int .u64 0, .int .u64 0, .int .u64 0, .int .u64 0]
set_option maxRecDepth 20000 in
set_option maxHeartbeats 2000000 in
theorem word_any (A : Option Addr) (xs : List (Int × Int)) (cap : Nat) (w : World) (hxs : SlAt w A (cellsC xs)) (hcap : xs.length ≤ cap) (hn : xs.length ≤ 100000) (hb8 : ∀ c ∈ xs, 0 ≤ c.1 ∧ c.1 < 256) :
    Calls Try.prog 22 #[.slice A xs.length cap] w fun e w' => e = .returned (valV (wordX xs) (wordL xs)) ∧ Below w.heap.size w w' := by
  have hP : ∀ W, SlAt W A (cellsC xs) → Calls Try.prog 8 #[.slice A xs.length cap, .int .i64 0, .int .i64 32] W fun e w' => ∃ A' c, e = .returned (.tuple #[.slice A' 32 c, .int .i64 0]) ∧ SlAt w' A' (cellsC (partL xs 0 32)) ∧ 32 ≤ c ∧ Below W.heap.size W w' :=
    fun W hW => part_any A xs cap 0 32 W hW hcap hn (by omega)
  have HP := Lib.hid hP
  have hm8 : ∀ c ∈ partL xs 0 32, 0 ≤ c.1 ∧ c.1 < 256 := partL_in hb8 (by decide)
  have HM := Lib.hid hm8
  have hlp := partL_len xs 0 32
  have hln : (nats (partL xs 0 32)).length = 32 := by unfold nats; rw [List.length_map, hlp]
  have hX := hxs.grow (World.below_alloc w (.cells zeroV 37))
  clear hP hm8 hxs hb8
  generalize xs.length = n at *
  go_enter Try.func22, Try.ntmps22
  go_wp2_with fail
  refine (HP.out _ hX).mono ?_
  rintro e w1 ⟨A', c, rfl, hs, hc, hb⟩
  have hb2 : Blk w1 w.heap.size zeroV 37 := by
    unfold Blk; rw [hb.block _ (by simp)]; exact heap_alloc_new _ _
  have hb0 : Below w.heap.size w w1 := (World.below_alloc w _).trans (hb.mono (by simp))
  have hF := bytes_any A' (partL xs 0 32) c w1 hs (by omega) (by omega)
  rw [hlp, natC_nats HM.out] at hF
  have HF := Lib.hid hF
  clear hb hF hX
  go_wp2_with fail
  refine HF.out.mono ?_
  rintro e w2 ⟨A2, c2, rfl, hs2, hc2, hbb, _⟩
  have hF := wordRead_any A2 (nats (partL xs 0 32)) c2 w2 hs2 (by omega) (by omega) (nats_lt HM.out)
  rw [hln] at hF
  have HG := Lib.hid hF
  have hb3 := hb2.grow hbb
  have hb4 := hb0.trans (hbb.mono hb0.size)
  have hs3 := hs.grow hbb
  clear hF hs2 hbb hb2 hb0 hs HF
  go_wp2_with fail
  refine HG.out.mono ?_
  rintro e w3 ⟨rfl, hbc⟩
  have hb5 := hb3.grow hbc
  have hb6 := hb4.trans (hbc.mono hb4.size)
  have hs4 := hs3.grow hbc
  clear hbc hb3 hb4 hs3 HG
  go_wp2_with fail
  have hL : ∀ W, SlAt W A' (cellsC (partL xs 0 32)) → Calls Try.prog 16 #[.slice A' 32 c] W fun e w' => e = .returned (.int .u64 (wordL xs)) ∧ Below W.heap.size W w' := fun W hW => by
    have h := label_any A' (partL xs 0 32) c W hW (by omega) (by omega)
    rw [hlp] at h; exact h
  have HL := Lib.hid hL
  have hbk : Blk (w3.alloc (.cells (limbs (ob (fR (nats (partL xs 0 32)) 32))) 34)) w3.heap.size (limbs (ob (fR (nats (partL xs 0 32)) 32))) 34 := heap_alloc_new _ _
  have hbv := hb5.grow (World.below_alloc w3 (.cells (limbs (ob (fR (nats (partL xs 0 32)) 32))) 34))
  have hs5 := hs4.grow (World.below_alloc w3 (.cells (limbs (ob (fR (nats (partL xs 0 32)) 32))) 34))
  have hb7 : Below w.heap.size w (w3.alloc (.cells (limbs (ob (fR (nats (partL xs 0 32)) 32))) 34)) := hb6.alloc hb6.size _
  have hne : w.heap.size < w3.heap.size := hb5.lt
  generalize hw4 : w3.alloc (.cells (limbs (ob (fR (nats (partL xs 0 32)) 32))) 34) = w4 at *
  have hsz := hb7.size
  have hlt := hbk.lt
  clear hs4 hb5 hb6 hw4
  go_wp2_with fail
  refine wp_region_grow w4.heap.size 4 0 0 [(0, 0, 262144, 32), (1, 0, 524288, 8), (2, 2, 1048576, 524288), (3, 5, 2097152, 1310720), (4, 15, 0, 2097156)] [(.p 0, 1), (.p 1, 3), (.p 2, 7), (.p 3, 15)] [(4, 31)] _ (fun p hp => hp) (by first | omega | (simp; done) | (simp; omega)) (by kernel_rfl) (by kernel_rfl) (own2 hbk hbv) ?_
  refine wpG_pure (i := 0) (v := ?v1x0) rfl rfl (by rfl) (fun w hB hG K hK => ?h1x0) ?_
  case h1x0 =>
    have cx := Own.cell hG 0 rfl
    go_wp2_with fail
    exact hK _ (Below.refl _ _)
  simp only [List.set_cons_zero, List.set_cons_succ]
  refine wpG_move (i := 1) rfl rfl rfl (by rfl) rfl ?_
  simp only [List.set_cons_zero, List.set_cons_succ]
  refine wpG_pure (i := 2) (v := ?v1x2) rfl rfl (by rfl) (fun w hB hG K hK => ?h1x2) ?_
  case h1x2 =>
    go_wp2_with fail
    have hsx := SlAt.grow (w := w4.drew) hs5 hB
    refine (HL.out _ hsx).mono ?_
    rintro e wx ⟨rfl, hbx⟩
    exact hK _ hbx
  simp only [List.set_cons_zero, List.set_cons_succ]
  refine wpG_pure (i := 3) (v := ?v1x3) rfl rfl (by rfl) (fun w hB hG K hK => ?h1x3) ?_
  case h1x3 =>
    go_wp2_with fail
    exact hK _ (Below.refl _ _)
  simp only [List.set_cons_zero, List.set_cons_succ]
  refine wpG_nil (fun w5 hb1 hG1 => ?_)
  simp only [List.append_eq, List.cons_append, List.nil_append, List.drop_succ_cons, List.drop_zero, List.drop_nil]
  have O1 := Own.of hG1
  try simp only [List.setIfInBounds_toArray, List.set_cons_zero, List.set_cons_succ] at O1
  have bw1 : Below w4.heap.size w4 w5 := Below.trans (by go_grown) (Below.mono hb1 (by first | omega | (simp; done) | (simp; omega)))
  have zw1 := Below.size hb1
  try simp only [World.size_alloc, World.size_drew, World.size_setCell] at zw1
  have c1x0 := Own.cell O1 0 rfl
  have f1x0 := Own.free O1 0 rfl
  have l1x0 := Own.lt O1 0 rfl
  have l1x0d0 := le_up 0 l1x0
  have l1x0d1 := le_up 1 l1x0
  simp only [upN] at l1x0d0 l1x0d1
  have c1x1 := Own.cell O1 1 rfl
  have f1x1 := Own.free O1 1 rfl
  have l1x1 := Own.lt O1 1 rfl
  have l1x1d0 := le_up 0 l1x1
  have l1x1d1 := le_up 1 l1x1
  simp only [upN] at l1x1d0 l1x1d1
  have HO1 := Lib.hid O1
  clear O1 hb1
  have hbw := hb7.trans (bw1.mono hsz)
  have HB := Lib.hid hbw
  clear hbw bw1 hb7 hbk hbv hs5
  go_wp2_with fail
  refine bodyPost_ret (v := valV (wordX xs) (wordL xs)) (by simp [results, Try.results22, go_sem, wordX, *]) rfl ?_
  have := HB.out
  exact ⟨rfl, by go_grown⟩
set_option maxRecDepth 20000 in
set_option maxHeartbeats 2000000 in
theorem refWord_any (A : Option Addr) (xs : List (Int × Int)) (cap : Nat) (w : World) (hxs : SlAt w A (cellsC xs)) (hcap : xs.length ≤ cap) (hn : xs.length ≤ 100000) (hb8 : ∀ c ∈ xs, 0 ≤ c.1 ∧ c.1 < 256) :
    Calls Try.prog 23 #[.slice A xs.length cap] w fun e w' => e = .returned (valV (wordX xs) (wordL xs)) ∧ Below w.heap.size w w' := by
  have hP : ∀ W, SlAt W A (cellsC xs) → Calls Try.prog 11 #[.slice A xs.length cap, .int .i64 0, .int .i64 32] W (Gives W (cellsC (partL xs 0 32)) 32) :=
    fun W hW => refPart_any A xs cap 0 32 W hW hcap hn (by omega) (by omega)
  have HP := Lib.hid hP
  have hm8 : ∀ c ∈ partL xs 0 32, 0 ≤ c.1 ∧ c.1 < 256 := partL_in hb8 (by decide)
  have HM := Lib.hid hm8
  have hlp := partL_len xs 0 32
  have hln : (nats (partL xs 0 32)).length = 32 := by unfold nats; rw [List.length_map, hlp]
  have hX := hxs.grow (World.below_alloc w (.cells zeroV 37))
  clear hP hm8 hxs hb8
  generalize xs.length = n at *
  go_enter Try.func23, Try.ntmps23
  go_wp2_with fail
  refine (HP.out _ hX).mono ?_
  rintro e w1 ⟨A', c, rfl, hs, hc, hb, _⟩
  have hb2 : Blk w1 w.heap.size zeroV 37 := by
    unfold Blk; rw [hb.block _ (by simp)]; exact heap_alloc_new _ _
  have hb0 : Below w.heap.size w w1 := (World.below_alloc w _).trans (hb.mono (by simp))
  have hF := refBytes_any A' (partL xs 0 32) c w1 hs (by omega) (by omega)
  rw [hlp, natC_nats HM.out] at hF
  have HF := Lib.hid hF
  clear hb hF hX
  go_wp2_with fail
  refine HF.out.mono ?_
  rintro e w2 ⟨A2, c2, rfl, hs2, hc2, hbb, _⟩
  have hF := refRead_any A2 (nats (partL xs 0 32)) c2 w2 hs2 (by omega) (by omega) (nats_lt HM.out)
  rw [hln] at hF
  have HG := Lib.hid hF
  have hb3 := hb2.grow hbb
  have hb4 := hb0.trans (hbb.mono hb0.size)
  have hs3 := hs.grow hbb
  clear hF hs2 hbb hb2 hb0 hs HF
  go_wp2_with fail
  refine HG.out.mono ?_
  rintro e w3 ⟨rfl, hbc⟩
  have hb5 := hb3.grow hbc
  have hb6 := hb4.trans (hbc.mono hb4.size)
  have hs4 := hs3.grow hbc
  clear hbc hb3 hb4 hs3 HG
  go_wp2_with fail
  have hL : ∀ W, SlAt W A' (cellsC (partL xs 0 32)) → Calls Try.prog 17 #[.slice A' 32 c] W fun e w' => e = .returned (.int .u64 (wordL xs)) ∧ W = w' := fun W hW => by
    have h := refLabel_any A' (partL xs 0 32) c W hW (by omega) (by omega)
    rw [hlp] at h; exact h
  have HL := Lib.hid hL
  have hbk : Blk (w3.alloc (.cells (limbs (ob (fR (nats (partL xs 0 32)) 32))) 34)) w3.heap.size (limbs (ob (fR (nats (partL xs 0 32)) 32))) 34 := heap_alloc_new _ _
  have hbv := hb5.grow (World.below_alloc w3 (.cells (limbs (ob (fR (nats (partL xs 0 32)) 32))) 34))
  have hs5 := hs4.grow (World.below_alloc w3 (.cells (limbs (ob (fR (nats (partL xs 0 32)) 32))) 34))
  have hb7 : Below w.heap.size w (w3.alloc (.cells (limbs (ob (fR (nats (partL xs 0 32)) 32))) 34)) := hb6.alloc hb6.size _
  have hne : w.heap.size < w3.heap.size := hb5.lt
  generalize hw4 : w3.alloc (.cells (limbs (ob (fR (nats (partL xs 0 32)) 32))) 34) = w4 at *
  have hsz := hb7.size
  have hlt := hbk.lt
  clear hs4 hb5 hb6 hw4
  go_wp2_with fail
  refine wp_region_grow w4.heap.size 4 0 0 [(0, 0, 16384, 16), (1, 0, 32768, 8), (2, 2, 65536, 32768), (3, 5, 131072, 81920), (4, 15, 0, 131076)] [(.p 0, 1), (.p 1, 3), (.p 2, 7), (.p 3, 15)] [(4, 31)] _ (fun p hp => hp) (by first | omega | (simp; done) | (simp; omega)) (by kernel_rfl) (by kernel_rfl) (own2 hbk hbv) ?_
  refine wpG_pure (i := 0) (v := ?v1x0) rfl rfl (by rfl) (fun w hB hG K hK => ?h1x0) ?_
  case h1x0 =>
    have cx := Own.cell hG 0 rfl
    go_wp2_with fail
    exact hK _ (Below.refl _ _)
  simp only [List.set_cons_zero, List.set_cons_succ]
  refine wpG_move (i := 1) rfl rfl rfl (by rfl) rfl ?_
  simp only [List.set_cons_zero, List.set_cons_succ]
  refine wpG_pure (i := 2) (v := ?v1x2) rfl rfl (by rfl) (fun w hB hG K hK => ?h1x2) ?_
  case h1x2 =>
    go_wp2_with fail
    have hsx := SlAt.grow (w := w4.drew) hs5 hB
    refine (HL.out _ hsx).mono ?_
    rintro e wx ⟨rfl, rfl⟩
    exact hK _ (Below.refl _ _)
  simp only [List.set_cons_zero, List.set_cons_succ]
  refine wpG_pure (i := 3) (v := ?v1x3) rfl rfl (by rfl) (fun w hB hG K hK => ?h1x3) ?_
  case h1x3 =>
    go_wp2_with fail
    exact hK _ (Below.refl _ _)
  simp only [List.set_cons_zero, List.set_cons_succ]
  refine wpG_nil (fun w5 hb1 hG1 => ?_)
  simp only [List.append_eq, List.cons_append, List.nil_append, List.drop_succ_cons, List.drop_zero, List.drop_nil]
  have O1 := Own.of hG1
  try simp only [List.setIfInBounds_toArray, List.set_cons_zero, List.set_cons_succ] at O1
  have bw1 : Below w4.heap.size w4 w5 := Below.trans (by go_grown) (Below.mono hb1 (by first | omega | (simp; done) | (simp; omega)))
  have zw1 := Below.size hb1
  try simp only [World.size_alloc, World.size_drew, World.size_setCell] at zw1
  have c1x0 := Own.cell O1 0 rfl
  have f1x0 := Own.free O1 0 rfl
  have l1x0 := Own.lt O1 0 rfl
  have l1x0d0 := le_up 0 l1x0
  have l1x0d1 := le_up 1 l1x0
  simp only [upN] at l1x0d0 l1x0d1
  have c1x1 := Own.cell O1 1 rfl
  have f1x1 := Own.free O1 1 rfl
  have l1x1 := Own.lt O1 1 rfl
  have l1x1d0 := le_up 0 l1x1
  have l1x1d1 := le_up 1 l1x1
  simp only [upN] at l1x1d0 l1x1d1
  have HO1 := Lib.hid O1
  clear O1 hb1
  have hbw := hb7.trans (bw1.mono hsz)
  have HB := Lib.hid hbw
  clear hbw bw1 hb7 hbk hbv hs5
  go_wp2_with fail
  refine bodyPost_ret (v := valV (wordX xs) (wordL xs)) (by simp [results, Try.results23, go_sem, wordX, *]) rfl ?_
  have := HB.out
  exact ⟨rfl, by go_grown⟩
end Go.Proofs.Ytknkepokkenokaa
