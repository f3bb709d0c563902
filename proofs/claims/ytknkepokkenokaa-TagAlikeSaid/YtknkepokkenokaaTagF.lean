/- Walks of the document's answers on cells: Join. -/
import Derived.Test.YtknkepokkenokaaTagE
set_option linter.unusedVariables false
set_option linter.unusedSimpArgs false
namespace Go.Proofs.Ytknkepokkenokaa
open Go.RowKit

set_option maxRecDepth 20000 in
set_option maxHeartbeats 1000000 in
theorem refJoins_any (A : Option Addr) (xs : List (Int × Int)) (cap : Nat) (a : Int) (w : World) (hxs : SlAt w A (cellsC xs)) (hcap : xs.length ≤ cap) (hn : xs.length ≤ 100000) :
    Calls Try.prog 19 #[.int .u64 a, .slice A xs.length cap] w (Gives w (cellsC (xs.map (fun c => (c.1, orI a c.2)))) xs.length) := by
  obtain ⟨i0, hi, hz0, hz1, hz2⟩ := info_parts tinfo_cell
  have HX := Lib.hid hxs
  clear hxs
  generalize hln : xs.length = n at *
  go_enter Try.func19, Try.ntmps19
  go_wp2_with fail
  go_loopw [5, 6] (fun v i wr => MadeRel w.heap.size 55 2 n w (fun k => cellsC ((xs.map (fun c => (c.1, orI a c.2))).take k)) v i wr) (fun _ i _ => n - (intOf i).toNat)
  case atStart => exact ⟨0, Nat.zero_le _, rfl, by simpa [cellsC] using World.ownsRow_nil w w.heap.size 55 2, Below.refl _ _⟩
  case round =>
    obtain ⟨k, hk, rfl, hown, hb⟩ := hrel
    by_cases hlt : k < n
    · obtain ⟨x, hx⟩ : ∃ x, xs[k]? = some x := ⟨xs[k], by simp [hln, hlt]⟩
      obtain ⟨b, off, rfl, hbl, hcell⟩ := HX.out.cell (cellsC_at (j := 0) hx (by rfl))
      have hc0 : wr.cell? ⟨b, off + k * 2, none⟩ = some (.int .u8 x.1) := (hb.cell (p := ⟨b, off + k * 2, none⟩) hbl).trans (by have := hcell (k * 2) _ (cellsC_at (j := 0) hx (by rfl)); simpa [Nat.add_assoc] using this)
      have hc1 : wr.cell? ⟨b, off + k * 2 + 1, none⟩ = some (.int .u64 x.2) := (hb.cell (p := ⟨b, off + k * 2 + 1, none⟩) hbl).trans (by have := hcell (k * 2 + 1) _ (cellsC_at (j := 1) hx (by rfl)); simpa [Nat.add_assoc] using this)
      have hsz := hb.size
      clear hcell
      have hbr : b < wr.heap.size := Nat.lt_of_lt_of_le hbl hsz
      go_wp2_with fail
      refine wp_region_grow wr.heap.size 15 0 16384 [(0, 0, 8192, 32), (1, 0, 16384, 2), (2, 0, 32768, 64), (3, 6, 65536, 49152), (4, 8, 131072, 65536), (5, 16, 262144, 131072), (6, 0, 524288, 1), (7, 0, 1048576, 2), (8, 0, 2097152, 64), (9, 384, 4194304, 3145728), (10, 512, 8388608, 4194304), (11, 1024, 16777216, 8388608), (12, 2112, 33554432, 17301504), (13, 4128, 67108864, 33816576), (14, 8192, 134217728, 67108864), (15, 20481, 268435456, 134225920), (16, 65535, 32, 268435456)] [(.p 0, 1), (.p 1, 3), (.p 2, 7), (.p 3, 15), (.p 4, 31), (.q 5, 63), (.p 6, 127), (.p 7, 255), (.p 8, 511), (.p 9, 1023), (.p 10, 2047), (.q 11, 4095), (.p 12, 8191), (.p 13, 16383), (.g 14, 32767)] [(15, 65535), (16, 131071)] _ (fun p hp => hp) (by first | omega | (simp; done) | (simp; omega)) (by kernel_rfl) (by kernel_rfl) (Own.nil wr) ?_
      refine wpG_move (i := 0) rfl rfl rfl (by rfl) rfl ?_
      simp only [List.set_cons_zero, List.set_cons_succ]
      refine wpG_move (i := 1) rfl rfl rfl (by rfl) rfl ?_
      simp only [List.set_cons_zero, List.set_cons_succ]
      refine wpG_move (i := 2) rfl rfl rfl (by rfl) rfl ?_
      simp only [List.set_cons_zero, List.set_cons_succ]
      refine wpG_pure (i := 3) (v := ?v1x3) rfl rfl (by rfl) (fun w hB hG K hK => ?h1x3) ?_
      case h1x3 =>
        go_wp2_with fail
        exact hK _ (Below.refl _ _)
      simp only [List.set_cons_zero, List.set_cons_succ]
      refine wpG_pure (i := 4) (v := ?v1x4) rfl rfl (by rfl) (fun w hB hG K hK => ?h1x4) ?_
      case h1x4 =>
        go_wp2_with fail
        exact hK _ (Below.refl _ _)
      simp only [List.set_cons_zero, List.set_cons_succ]
      refine wpG_op (i := 5) (v := ?v1x5) rfl rfl (by rfl) (fun w hB hG K hK => ?h1x5) ?_
      case h1x5 =>
        have hcx := (hB.cell (p := ⟨b, off + k * 2, none⟩) hbr).trans (drewc hc0)
        go_wp2_with fail
        exact hK _ (Below.refl _ _)
      simp only [List.set_cons_zero, List.set_cons_succ]
      refine wpG_move (i := 6) rfl rfl rfl (by rfl) rfl ?_
      simp only [List.set_cons_zero, List.set_cons_succ]
      refine wpG_move (i := 7) rfl rfl rfl (by rfl) rfl ?_
      simp only [List.set_cons_zero, List.set_cons_succ]
      refine wpG_move (i := 8) rfl rfl rfl (by rfl) rfl ?_
      simp only [List.set_cons_zero, List.set_cons_succ]
      refine wpG_pure (i := 9) (v := ?v1x9) rfl rfl (by rfl) (fun w hB hG K hK => ?h1x9) ?_
      case h1x9 =>
        go_wp2_with fail
        exact hK _ (Below.refl _ _)
      simp only [List.set_cons_zero, List.set_cons_succ]
      refine wpG_pure (i := 10) (v := ?v1x10) rfl rfl (by rfl) (fun w hB hG K hK => ?h1x10) ?_
      case h1x10 =>
        go_wp2_with fail
        exact hK _ (Below.refl _ _)
      simp only [List.set_cons_zero, List.set_cons_succ]
      refine wpG_op (i := 11) (v := ?v1x11) rfl rfl (by rfl) (fun w hB hG K hK => ?h1x11) ?_
      case h1x11 =>
        have hcx := (hB.cell (p := ⟨b, off + k * 2 + 1, none⟩) hbr).trans (drewc hc1)
        go_wp2_with fail
        exact hK _ (Below.refl _ _)
      simp only [List.set_cons_zero, List.set_cons_succ]
      refine wpG_pure (i := 12) (v := ?v1x12) rfl rfl (by rfl) (fun w hB hG K hK => ?h1x12) ?_
      case h1x12 =>
        go_wp2_with fail
        refine (refJoin_any _ _ _).mono ?_
        rintro e wx ⟨rfl, rfl⟩
        exact hK _ (Below.refl _ _)
      simp only [List.set_cons_zero, List.set_cons_succ]
      refine wpG_pure (i := 13) (v := ?v1x13) rfl rfl (by rfl) (fun w hB hG K hK => ?h1x13) ?_
      case h1x13 =>
        go_wp2_with fail
        exact hK _ (Below.refl _ _)
      simp only [List.set_cons_zero, List.set_cons_succ]
      refine wpG_make (i := 14) (c := ?c1x14) (t := ?t1x14) (fun b => .slice (some ⟨b, 0, none⟩) 1 1) rfl rfl (by rfl) (fun w hB hG K hK => ?h1x14) (fun v1g1 l1g1 n1g1 => ?_)
      case h1x14 =>
        go_wp2_with fail
        exact hK
      simp only [List.set_cons_zero, List.set_cons_succ]
      try simp only [World.size_alloc, World.size_drew, World.size_setCell] at l1g1
      clear n1g1
      refine wpG_nil (fun w1 hb1 hG1 => ?_)
      simp only [List.append_eq, List.cons_append, List.nil_append, List.drop_succ_cons, List.drop_zero, List.drop_nil]
      have u1g1 := Own.lt hG1 0 rfl
      have O1 := Own.of hG1
      try simp only [List.setIfInBounds_toArray, List.set_cons_zero, List.set_cons_succ] at O1
      have bw1 : Below wr.heap.size wr w1 := Below.trans (by go_grown) (Below.mono hb1 (by first | omega | (simp; done) | (simp; omega)))
      have zw1 := Below.size hb1
      try simp only [World.size_alloc, World.size_drew, World.size_setCell] at zw1
      have c1x0 := O1.cell 0 rfl
      have f1x0 := O1.free 0 rfl
      have l1x0 := O1.lt 0 rfl
      have l1x0d0 := le_up 0 l1x0
      have l1x0d1 := le_up 1 l1x0
      simp only [upN] at l1x0d0 l1x0d1
      have HO1 := Lib.hid O1
      clear O1 hb1
      have hown2 := owns_below hown bw1
      have hbw := hb.trans (bw1.mono hb.size)
      have hsz2 := hbw.size
      have hnew : ∀ j u, (cellC (x.1, orI a x.2))[j]? = some u → w1.cell? ((⟨v1g1, 0, none⟩ : Addr).add j) = some u := fun j u hu => by
        rw [Addr.add_lit, Nat.zero_add]
        match j, hu with
        | 0, hu => simp [cellC] at hu; subst hu; exact (HO1.out.cell 0 rfl 0).trans rfl
        | 1, hu => simp [cellC] at hu; subst hu; exact (HO1.out.cell 0 rfl 1).trans rfl
        | j + 2, hu => simp [cellC] at hu
      go_wp2_with (first | (at_builtin; refine wpList_append_own _ rfl _ _ 22 rfl w.heap.size 55 i0 _ 2 16 under_cells hi hz0 hz1 hz2 rfl (by decide) _ _ _ rfl hown2 ⟨v1g1, 0, none⟩ 1 1 (cellC ((fun c => (c.1, orI a c.2)) x)) rfl rfl hnew (by simp [cellC, Value.oneCell']) (by simp only [maxLen]; omega) (by omega) (by first | omega | (simp; omega)) ?_))
      intro v3 w3 hown3 hg3 _
      have hb3 : Below w.heap.size w w3 := below_grown hbw hown2 hg3 (by omega) (Nat.le_refl _)
      have hown4 : w3.ownsRow w.heap.size 55 2 v3 (k + 1) (cellsC ((xs.map (fun c => (c.1, orI a c.2))).take (k + 1))) := by
        rw [cellsC_take (x := (fun c => (c.1, orI a c.2)) x) (by simp [hx])]; exact hown3
      clear hown3 hg3 hc0 hc1 hsz hown hb hown2 hbw hsz2 hnew bw1
      go_wp2_with fail
      exact ⟨⟨k + 1, by omega, by go_num, hown4, hb3⟩, by simp [intOf]; omega⟩
    · obtain rfl : k = n := by omega
      dsimp only at hown
      rw [List.take_of_length_le (by simp [hln])] at hown
      obtain ⟨A', c', rfl, hs, hc, hT⟩ := slice_of_owns hown
      clear hown
      go_wp2_with fail
      go_ret
      exact ⟨_, _, rfl, hs, hc, hb, hT⟩
end Go.Proofs.Ytknkepokkenokaa
