/- Walks: which lists are alike, by the document; its parts. -/
import Derived.Test.YtknkepokkenokaaTagH
set_option linter.unusedVariables false
set_option linter.unusedSimpArgs false
namespace Go.Proofs.Ytknkepokkenokaa
open Go.RowKit

theorem alikes_any (A A' : Option Addr) (xs ys : List (Int × Int)) (cap cap' : Nat) (up : Int) (w : World) (hxs : SlAt w A (cellsC xs)) (hys : SlAt w A' (cellsC ys)) (hcap : xs.length ≤ cap) (hcap' : ys.length ≤ cap') (hn : xs.length ≤ 100000) (hn' : ys.length ≤ 100000) :
    Calls Try.prog 24 #[.slice A xs.length cap, .slice A' ys.length cap', .int .u64 up] w fun e w' => e = .returned (.bool (alikeL belowI up xs ys)) ∧ Below w.heap.size w w' := by
  have HF := Lib.hid (fun (W : World) (hX : SlAt W A (cellsC xs)) (hY : SlAt W A' (cellsC ys)) (hc : W.cell? ⟨w.heap.size, 0, none⟩ = some (.int .u64 up)) => equalFunc_any w.heap.size up A A' xs ys cap cap' W hX hY hcap hcap' hn hn' hc)
  generalize xs.length = n at *
  generalize ys.length = m at *
  go_enter Try.func24, Try.ntmps24
  go_wp2_with fail
  refine (HF.out _ (hxs.grow (World.below_alloc w _)) (hys.grow (World.below_alloc w _)) (newc _ _ _ _ rfl)).mono ?_
  rintro e w2 ⟨rfl, hb⟩
  have hbw := (World.below_alloc w _).trans (hb.mono (World.below_alloc w _).size)
  clear hb
  go_wp2_with fail
  go_ret
  exact ⟨rfl, hbw⟩
set_option maxRecDepth 20000 in
set_option maxHeartbeats 1000000 in
theorem refSame_any (x y : Vl) (up : Int) (w : World) (h0 : 0 ≤ x.l) (h1 : 0 ≤ up) :
    Calls Try.prog 28 #[x.v, y.v, .int .u64 up] w fun e w' => e = .returned (.bool (sameV refBelowI up x y)) ∧ Below w.heap.size w w' := by
  obtain ⟨a, b, c, d, l⟩ := x
  obtain ⟨a', b', c', d', l'⟩ := y
  have hB := fun W : World => refBelow_any l up W h0 h1
  have HB := Lib.hid hB
  clear hB h0 h1
  by_cases e2 : l = l'
  · subst e2
    have hq := eqWord0 a b c d a' b' c' d'
    cases hbl : refBelowI l up with
    | false =>
      rw [hbl] at HB
      go_enter Try.func28, Try.ntmps28
      go_wp2_with fail
      refine (HB.out _).mono ?_
      rintro e w1 ⟨rfl, rfl⟩
      go_wp2_with fail
      go_ret
      refine ⟨by simp [sameV, sameW, hbl], ?_⟩; go_grown
    | true =>
      rw [hbl] at HB
      by_cases e1 : a = a' ∧ b = b' ∧ c = c' ∧ d = d'
      · rw [decide_eq_true e1] at hq
        have E1 := Lib.hid e1
        clear e1
        go_enter Try.func28, Try.ntmps28
        go_wp2_with fail
        refine (HB.out _).mono ?_
        rintro e w1 ⟨rfl, rfl⟩
        go_wp2_with fail
        go_ret
        refine ⟨by simp [sameV, sameW, hbl, E1.out], ?_⟩; go_grown
      · rw [decide_eq_false e1] at hq
        have E1 := Lib.hid e1
        clear e1
        go_enter Try.func28, Try.ntmps28
        go_wp2_with fail
        refine (HB.out _).mono ?_
        rintro e w1 ⟨rfl, rfl⟩
        go_wp2_with fail
        go_ret
        refine ⟨by have h := E1.out; simp [sameV, sameW, hbl]; exact fun q1 q2 q3 q4 => h ⟨q1, q2, q3, q4⟩, ?_⟩; go_grown
  · go_enter Try.func28, Try.ntmps28
    go_wp2_with fail
    go_ret
    refine ⟨by simp [sameV, sameW, e2], ?_⟩; go_grown

set_option maxRecDepth 20000 in
set_option maxHeartbeats 4000000 in
theorem refAlike_any (A A' : Option Addr) (xs ys : List (Int × Int)) (cap cap' : Nat) (up : Int) (w : World) (hxs : SlAt w A (cellsC xs)) (hys : SlAt w A' (cellsC ys)) (hcap : xs.length ≤ cap) (hcap' : ys.length ≤ cap') (hn : xs.length ≤ 100000) (hn' : ys.length ≤ 100000) (hu : 0 ≤ up) (hl : ∀ x ∈ xs, 0 ≤ x.2) :
    Calls Try.prog 27 #[.slice A xs.length cap, .slice A' ys.length cap', .int .u64 up] w fun e w' => e = .returned (.bool (alikeL refBelowI up xs ys)) ∧ Below w.heap.size w w' := by
  have HX := Lib.hid hxs
  have HY := Lib.hid hys
  have HLB := Lib.hid hl
  clear hxs hys hl
  generalize hln : xs.length = n at *
  generalize hlm : ys.length = m at *
  by_cases hnm : n = m
  · subst hnm
    go_enter Try.func27, Try.ntmps27
    go_wp2_with fail
    go_loopw [7] (fun i wr => EqRel refBelowI up xs ys w i wr) (fun i _ => n - (intOf i).toNat)
    case atStart => exact ⟨0, Nat.zero_le _, rfl, fun j hj => absurd hj (by omega), Below.refl _ _⟩
    case round =>
      obtain ⟨k, hk, rfl, hno, hb⟩ := hrel
      have HN := Lib.hid hno
      clear hno
      by_cases hlt : k < n
      · obtain ⟨x, hx⟩ : ∃ x, xs[k]? = some x := ⟨xs[k], by simp [hln, hlt]⟩
        obtain ⟨y, hy⟩ : ∃ y, ys[k]? = some y := ⟨ys[k], by simp [hlm, hlt]⟩
        obtain ⟨b, off, rfl, hbl, hcell⟩ := HX.out.cell (cellsC_at (j := 0) hx (by rfl))
        obtain ⟨b', off', rfl, hbl', hcell'⟩ := HY.out.cell (cellsC_at (j := 0) hy (by rfl))
        have hc0 : wr.cell? ⟨b, off + k * 2, none⟩ = some (.int .u8 x.1) := (hb.cell (p := ⟨b, off + k * 2, none⟩) hbl).trans (by have := hcell (k * 2) _ (cellsC_at (j := 0) hx (by rfl)); simpa [Nat.add_assoc] using this)
        have hc1 : wr.cell? ⟨b, off + k * 2 + 1, none⟩ = some (.int .u64 x.2) := (hb.cell (p := ⟨b, off + k * 2 + 1, none⟩) hbl).trans (by have := hcell (k * 2 + 1) _ (cellsC_at (j := 1) hx (by rfl)); simpa [Nat.add_assoc] using this)
        have hd0 : wr.cell? ⟨b', off' + k * 2, none⟩ = some (.int .u8 y.1) := (hb.cell (p := ⟨b', off' + k * 2, none⟩) hbl').trans (by have := hcell' (k * 2) _ (cellsC_at (j := 0) hy (by rfl)); simpa [Nat.add_assoc] using this)
        have hd1 : wr.cell? ⟨b', off' + k * 2 + 1, none⟩ = some (.int .u64 y.2) := (hb.cell (p := ⟨b', off' + k * 2 + 1, none⟩) hbl').trans (by have := hcell' (k * 2 + 1) _ (cellsC_at (j := 1) hy (by rfl)); simpa [Nat.add_assoc] using this)
        have hsz := hb.size
        replace hbl : b < wr.heap.size := Nat.lt_of_lt_of_le hbl hsz
        replace hbl' : b' < wr.heap.size := Nat.lt_of_lt_of_le hbl' hsz
        have HB := Lib.hid fun W => refBelow_any x.2 up W (HLB.out x (List.mem_of_getElem? hx)) hu
        clear hcell hcell'
        by_cases e2 : x.2 = y.2
        · rw [e2] at hc1
          cases hbq : refBelowI x.2 up with
          | false =>
            rw [hbq] at HB
            have HAL : alikeC refBelowI up x y = true := by unfold alikeC; rw [hbq]; simp [e2]
            rw [e2] at HB
            have hno' := EqRel.more HN.out hx hy HAL
            have HN' := Lib.hid hno'
            clear hno'
            go_wp2_with fail
            refine wp_region_grow wr.heap.size 33 0 0 [(0, 0, 524288, 1), (1, 0, 1048576, 128), (2, 3, 2097152, 1572864), (3, 4, 4194304, 2097152), (4, 8, 8388608, 4194304), (5, 0, 16777216, 2), (6, 0, 33554432, 128), (7, 96, 67108864, 50331648), (8, 128, 134217728, 67108864), (9, 256, 268435456, 134217728), (10, 528, 536870912, 276824064), (11, 1024, 1073741824, 536870912), (12, 2048, 2147483648, 1073741825), (13, 2048, 4294967296, 1073741952), (14, 14336, 8589934592, 7516192768), (15, 18432, 17179869184, 9663676416), (16, 34816, 34359738368, 18253611008), (17, 2048, 68719476736, 1073741828), (18, 198656, 137438953472, 104152956928), (19, 264192, 274877906944, 138512695296), (20, 524288, 549755813888, 274877906945), (21, 524288, 1099511627776, 274877907072), (22, 3670016, 2199023255552, 1924145348608), (23, 4718592, 4398046511104, 2473901162496), (24, 8912896, 8796093022208, 4672924418048), (25, 524288, 17592186044416, 274877906946), (26, 524288, 35184372088832, 274877907072), (27, 101187584, 70368744177664, 53051436040192), (28, 134742016, 140737488355328, 70643622084608), (29, 268959744, 281474976710656, 141012366262272), (30, 554172416, 562949953421312, 290545947639808), (31, 1074268160, 1125899906842624, 563225905070080), (32, 2147485696, 2251799813685248, 1125900980584448)] [(.p 0, 1), (.p 1, 3), (.p 2, 7), (.p 3, 15), (.q 4, 31), (.p 5, 63), (.p 6, 127), (.p 7, 255), (.p 8, 511), (.q 9, 1023), (.p 10, 2047), (.p 11, 4095), (.p 12, 8191), (.p 13, 16383), (.p 14, 32767), (.p 15, 65535), (.q 16, 131071), (.p 17, 262143), (.p 18, 524287), (.p 19, 1048575), (.p 20, 2097151), (.p 21, 4194303), (.p 22, 8388607), (.p 23, 16777215), (.p 24, 33554431), (.p 25, 67108863), (.p 26, 134217727), (.p 27, 268435455), (.p 28, 536870911), (.p 29, 1073741823), (.p 30, 2147483647), (.p 31, 4294967295), (.p 32, 8589934591)] [] _ (fun p hp => hp) (by first | omega | (simp; done) | (simp; omega)) (by kernel_rfl) (by kernel_rfl) (Own.nil wr) ?_
            refine wpG_move (i := 0) rfl rfl rfl (by rfl) rfl ?_
            simp only [List.set_cons_zero, List.set_cons_succ]
            refine wpG_move (i := 1) rfl rfl rfl (by rfl) rfl ?_
            simp only [List.set_cons_zero, List.set_cons_succ]
            refine wpG_pure (i := 2) (v := ?v1x2) rfl rfl (by rfl) (fun w hB hG K hK => ?h1x2) ?_
            case h1x2 =>
              go_wp2_with fail
              exact hK _ (Below.refl _ _)
            simp only [List.set_cons_zero, List.set_cons_succ]
            refine wpG_pure (i := 3) (v := ?v1x3) rfl rfl (by rfl) (fun w hB hG K hK => ?h1x3) ?_
            case h1x3 =>
              go_wp2_with fail
              exact hK _ (Below.refl _ _)
            simp only [List.set_cons_zero, List.set_cons_succ]
            refine wpG_op (i := 4) (v := ?v1x4) rfl rfl (by rfl) (fun w hB hG K hK => ?h1x4) ?_
            case h1x4 =>
              have hcx := (hB.cell (p := ⟨b, off + k * 2 + 1, none⟩) hbl).trans (drewc hc1)
              go_wp2_with fail
              exact hK _ (Below.refl _ _)
            simp only [List.set_cons_zero, List.set_cons_succ]
            refine wpG_move (i := 5) rfl rfl rfl (by rfl) rfl ?_
            simp only [List.set_cons_zero, List.set_cons_succ]
            refine wpG_move (i := 6) rfl rfl rfl (by rfl) rfl ?_
            simp only [List.set_cons_zero, List.set_cons_succ]
            refine wpG_pure (i := 7) (v := ?v1x7) rfl rfl (by rfl) (fun w hB hG K hK => ?h1x7) ?_
            case h1x7 =>
              go_wp2_with fail
              exact hK _ (Below.refl _ _)
            simp only [List.set_cons_zero, List.set_cons_succ]
            refine wpG_pure (i := 8) (v := ?v1x8) rfl rfl (by rfl) (fun w hB hG K hK => ?h1x8) ?_
            case h1x8 =>
              go_wp2_with fail
              exact hK _ (Below.refl _ _)
            simp only [List.set_cons_zero, List.set_cons_succ]
            refine wpG_op (i := 9) (v := ?v1x9) rfl rfl (by rfl) (fun w hB hG K hK => ?h1x9) ?_
            case h1x9 =>
              have hcx := (hB.cell (p := ⟨b', off' + k * 2 + 1, none⟩) hbl').trans (drewc hd1)
              go_wp2_with fail
              exact hK _ (Below.refl _ _)
            simp only [List.set_cons_zero, List.set_cons_succ]
            refine wpG_pure (i := 10) (v := ?v1x10) rfl rfl (by rfl) (fun w hB hG K hK => ?h1x10) ?_
            case h1x10 =>
              go_wp2_with fail
              exact hK _ (Below.refl _ _)
            simp only [List.set_cons_zero, List.set_cons_succ]
            refine wpG_move (i := 11) rfl rfl rfl (by rfl) rfl ?_
            simp only [List.set_cons_zero, List.set_cons_succ]
            refine wpG_move (i := 12) rfl rfl rfl (by rfl) rfl ?_
            simp only [List.set_cons_zero, List.set_cons_succ]
            refine wpG_move (i := 13) rfl rfl rfl (by rfl) rfl ?_
            simp only [List.set_cons_zero, List.set_cons_succ]
            refine wpG_pure (i := 14) (v := ?v1x14) rfl rfl (by rfl) (fun w hB hG K hK => ?h1x14) ?_
            case h1x14 =>
              go_wp2_with fail
              exact hK _ (Below.refl _ _)
            simp only [List.set_cons_zero, List.set_cons_succ]
            refine wpG_pure (i := 15) (v := ?v1x15) rfl rfl (by rfl) (fun w hB hG K hK => ?h1x15) ?_
            case h1x15 =>
              go_wp2_with fail
              exact hK _ (Below.refl _ _)
            simp only [List.set_cons_zero, List.set_cons_succ]
            refine wpG_op (i := 16) (v := ?v1x16) rfl rfl (by rfl) (fun w hB hG K hK => ?h1x16) ?_
            case h1x16 =>
              have hcx := (hB.cell (p := ⟨b, off + k * 2 + 1, none⟩) hbl).trans (drewc hc1)
              go_wp2_with fail
              exact hK _ (Below.refl _ _)
            simp only [List.set_cons_zero, List.set_cons_succ]
            refine wpG_move (i := 17) rfl rfl rfl (by rfl) rfl ?_
            simp only [List.set_cons_zero, List.set_cons_succ]
            refine wpG_pure (i := 18) (v := ?v1x18) rfl rfl (by rfl) (fun w hB hG K hK => ?h1x18) ?_
            case h1x18 =>
              go_wp2_with fail
              refine (HB.out _).mono ?_
              rintro e wx ⟨rfl, rfl⟩
              exact hK _ (Below.refl _ _)
            simp only [List.set_cons_zero, List.set_cons_succ]
            refine wpG_move (i := 19) rfl rfl rfl (by rfl) rfl ?_
            simp only [List.set_cons_zero, List.set_cons_succ]
            refine wpG_skip (i := 20) rfl rfl (by rfl) ?_
            simp only [List.set_cons_zero, List.set_cons_succ]
            refine wpG_skip (i := 21) rfl rfl (by rfl) ?_
            simp only [List.set_cons_zero, List.set_cons_succ]
            refine wpG_skip (i := 22) rfl rfl (by rfl) ?_
            simp only [List.set_cons_zero, List.set_cons_succ]
            refine wpG_skip (i := 23) rfl rfl (by rfl) ?_
            simp only [List.set_cons_zero, List.set_cons_succ]
            refine wpG_skip (i := 24) rfl rfl (by rfl) ?_
            simp only [List.set_cons_zero, List.set_cons_succ]
            refine wpG_skip (i := 25) rfl rfl (by rfl) ?_
            simp only [List.set_cons_zero, List.set_cons_succ]
            refine wpG_skip (i := 26) rfl rfl (by rfl) ?_
            simp only [List.set_cons_zero, List.set_cons_succ]
            refine wpG_skip (i := 27) rfl rfl (by rfl) ?_
            simp only [List.set_cons_zero, List.set_cons_succ]
            refine wpG_skip (i := 28) rfl rfl (by rfl) ?_
            simp only [List.set_cons_zero, List.set_cons_succ]
            refine wpG_skip (i := 29) rfl rfl (by rfl) ?_
            simp only [List.set_cons_zero, List.set_cons_succ]
            refine wpG_skip (i := 30) rfl rfl (by rfl) ?_
            simp only [List.set_cons_zero, List.set_cons_succ]
            refine wpG_pure (i := 31) (v := ?v1x31) rfl rfl (by rfl) (fun w hB hG K hK => ?h1x31) ?_
            case h1x31 =>
              go_wp2_with fail
              exact hK _ (Below.refl _ _)
            simp only [List.set_cons_zero, List.set_cons_succ]
            refine wpG_pure (i := 32) (v := ?v1x32) rfl rfl (by rfl) (fun w hB hG K hK => ?h1x32) ?_
            case h1x32 =>
              go_wp2_with fail
              exact hK _ (Below.refl _ _)
            simp only [List.set_cons_zero, List.set_cons_succ]
            refine wpG_nil (fun w1 hb1 hG1 => ?_)
            simp only [List.append_eq, List.cons_append, List.nil_append, List.drop_succ_cons, List.drop_zero, List.drop_nil]
            have O1 := Own.of hG1
            try simp only [List.setIfInBounds_toArray, List.set_cons_zero, List.set_cons_succ] at O1
            have bw1 : Below w.heap.size w w1 := Below.trans hb (Below.mono hb1 (by first | omega | (simp; done) | (simp; omega)))
            have zw1 := Below.size hb1
            try simp only [World.size_alloc, World.size_drew, World.size_setCell] at zw1
            have HO1 := Lib.hid O1
            clear O1 hb1
            go_wp2_with fail
            exact ⟨⟨k + 1, by omega, by go_num, HN'.out, bw1⟩, by simp [intOf]; omega⟩

          | true =>
            rw [hbq] at HB
            by_cases e1 : x.1 = y.1
            · have HAL : alikeC refBelowI up x y = true := by simp [alikeC, e2, e1]
              rw [e2] at HB
              rw [e1] at hc0
              have hno' := EqRel.more HN.out hx hy HAL
              have HN' := Lib.hid hno'
              clear hno'
              go_wp2_with fail
              refine wp_region_grow wr.heap.size 33 0 0 [(0, 0, 524288, 1), (1, 0, 1048576, 128), (2, 3, 2097152, 1572864), (3, 4, 4194304, 2097152), (4, 8, 8388608, 4194304), (5, 0, 16777216, 2), (6, 0, 33554432, 128), (7, 96, 67108864, 50331648), (8, 128, 134217728, 67108864), (9, 256, 268435456, 134217728), (10, 528, 536870912, 276824064), (11, 1024, 1073741824, 536870912), (12, 2048, 2147483648, 1073741825), (13, 2048, 4294967296, 1073741952), (14, 14336, 8589934592, 7516192768), (15, 18432, 17179869184, 9663676416), (16, 34816, 34359738368, 18253611008), (17, 2048, 68719476736, 1073741828), (18, 198656, 137438953472, 104152956928), (19, 264192, 274877906944, 138512695296), (20, 524288, 549755813888, 274877906945), (21, 524288, 1099511627776, 274877907072), (22, 3670016, 2199023255552, 1924145348608), (23, 4718592, 4398046511104, 2473901162496), (24, 8912896, 8796093022208, 4672924418048), (25, 524288, 17592186044416, 274877906946), (26, 524288, 35184372088832, 274877907072), (27, 101187584, 70368744177664, 53051436040192), (28, 134742016, 140737488355328, 70643622084608), (29, 268959744, 281474976710656, 141012366262272), (30, 554172416, 562949953421312, 290545947639808), (31, 1074268160, 1125899906842624, 563225905070080), (32, 2147485696, 2251799813685248, 1125900980584448)] [(.p 0, 1), (.p 1, 3), (.p 2, 7), (.p 3, 15), (.q 4, 31), (.p 5, 63), (.p 6, 127), (.p 7, 255), (.p 8, 511), (.q 9, 1023), (.p 10, 2047), (.p 11, 4095), (.p 12, 8191), (.p 13, 16383), (.p 14, 32767), (.p 15, 65535), (.q 16, 131071), (.p 17, 262143), (.p 18, 524287), (.p 19, 1048575), (.p 20, 2097151), (.p 21, 4194303), (.p 22, 8388607), (.p 23, 16777215), (.q 24, 33554431), (.p 25, 67108863), (.p 26, 134217727), (.p 27, 268435455), (.p 28, 536870911), (.q 29, 1073741823), (.p 30, 2147483647), (.p 31, 4294967295), (.p 32, 8589934591)] [] _ (fun p hp => hp) (by first | omega | (simp; done) | (simp; omega)) (by kernel_rfl) (by kernel_rfl) (Own.nil wr) ?_
              refine wpG_move (i := 0) rfl rfl rfl (by rfl) rfl ?_
              simp only [List.set_cons_zero, List.set_cons_succ]
              refine wpG_move (i := 1) rfl rfl rfl (by rfl) rfl ?_
              simp only [List.set_cons_zero, List.set_cons_succ]
              refine wpG_pure (i := 2) (v := ?v2x2) rfl rfl (by rfl) (fun w hB hG K hK => ?h2x2) ?_
              case h2x2 =>
                go_wp2_with fail
                exact hK _ (Below.refl _ _)
              simp only [List.set_cons_zero, List.set_cons_succ]
              refine wpG_pure (i := 3) (v := ?v2x3) rfl rfl (by rfl) (fun w hB hG K hK => ?h2x3) ?_
              case h2x3 =>
                go_wp2_with fail
                exact hK _ (Below.refl _ _)
              simp only [List.set_cons_zero, List.set_cons_succ]
              refine wpG_op (i := 4) (v := ?v2x4) rfl rfl (by rfl) (fun w hB hG K hK => ?h2x4) ?_
              case h2x4 =>
                have hcx := (hB.cell (p := ⟨b, off + k * 2 + 1, none⟩) hbl).trans (drewc hc1)
                go_wp2_with fail
                exact hK _ (Below.refl _ _)
              simp only [List.set_cons_zero, List.set_cons_succ]
              refine wpG_move (i := 5) rfl rfl rfl (by rfl) rfl ?_
              simp only [List.set_cons_zero, List.set_cons_succ]
              refine wpG_move (i := 6) rfl rfl rfl (by rfl) rfl ?_
              simp only [List.set_cons_zero, List.set_cons_succ]
              refine wpG_pure (i := 7) (v := ?v2x7) rfl rfl (by rfl) (fun w hB hG K hK => ?h2x7) ?_
              case h2x7 =>
                go_wp2_with fail
                exact hK _ (Below.refl _ _)
              simp only [List.set_cons_zero, List.set_cons_succ]
              refine wpG_pure (i := 8) (v := ?v2x8) rfl rfl (by rfl) (fun w hB hG K hK => ?h2x8) ?_
              case h2x8 =>
                go_wp2_with fail
                exact hK _ (Below.refl _ _)
              simp only [List.set_cons_zero, List.set_cons_succ]
              refine wpG_op (i := 9) (v := ?v2x9) rfl rfl (by rfl) (fun w hB hG K hK => ?h2x9) ?_
              case h2x9 =>
                have hcx := (hB.cell (p := ⟨b', off' + k * 2 + 1, none⟩) hbl').trans (drewc hd1)
                go_wp2_with fail
                exact hK _ (Below.refl _ _)
              simp only [List.set_cons_zero, List.set_cons_succ]
              refine wpG_pure (i := 10) (v := ?v2x10) rfl rfl (by rfl) (fun w hB hG K hK => ?h2x10) ?_
              case h2x10 =>
                go_wp2_with fail
                exact hK _ (Below.refl _ _)
              simp only [List.set_cons_zero, List.set_cons_succ]
              refine wpG_move (i := 11) rfl rfl rfl (by rfl) rfl ?_
              simp only [List.set_cons_zero, List.set_cons_succ]
              refine wpG_move (i := 12) rfl rfl rfl (by rfl) rfl ?_
              simp only [List.set_cons_zero, List.set_cons_succ]
              refine wpG_move (i := 13) rfl rfl rfl (by rfl) rfl ?_
              simp only [List.set_cons_zero, List.set_cons_succ]
              refine wpG_pure (i := 14) (v := ?v2x14) rfl rfl (by rfl) (fun w hB hG K hK => ?h2x14) ?_
              case h2x14 =>
                go_wp2_with fail
                exact hK _ (Below.refl _ _)
              simp only [List.set_cons_zero, List.set_cons_succ]
              refine wpG_pure (i := 15) (v := ?v2x15) rfl rfl (by rfl) (fun w hB hG K hK => ?h2x15) ?_
              case h2x15 =>
                go_wp2_with fail
                exact hK _ (Below.refl _ _)
              simp only [List.set_cons_zero, List.set_cons_succ]
              refine wpG_op (i := 16) (v := ?v2x16) rfl rfl (by rfl) (fun w hB hG K hK => ?h2x16) ?_
              case h2x16 =>
                have hcx := (hB.cell (p := ⟨b, off + k * 2 + 1, none⟩) hbl).trans (drewc hc1)
                go_wp2_with fail
                exact hK _ (Below.refl _ _)
              simp only [List.set_cons_zero, List.set_cons_succ]
              refine wpG_move (i := 17) rfl rfl rfl (by rfl) rfl ?_
              simp only [List.set_cons_zero, List.set_cons_succ]
              refine wpG_pure (i := 18) (v := ?v2x18) rfl rfl (by rfl) (fun w hB hG K hK => ?h2x18) ?_
              case h2x18 =>
                go_wp2_with fail
                refine (HB.out _).mono ?_
                rintro e wx ⟨rfl, rfl⟩
                exact hK _ (Below.refl _ _)
              simp only [List.set_cons_zero, List.set_cons_succ]
              refine wpG_move (i := 19) rfl rfl rfl (by rfl) rfl ?_
              simp only [List.set_cons_zero, List.set_cons_succ]
              refine wpG_move (i := 20) rfl rfl rfl (by rfl) rfl ?_
              simp only [List.set_cons_zero, List.set_cons_succ]
              refine wpG_move (i := 21) rfl rfl rfl (by rfl) rfl ?_
              simp only [List.set_cons_zero, List.set_cons_succ]
              refine wpG_pure (i := 22) (v := ?v2x22) rfl rfl (by rfl) (fun w hB hG K hK => ?h2x22) ?_
              case h2x22 =>
                go_wp2_with fail
                exact hK _ (Below.refl _ _)
              simp only [List.set_cons_zero, List.set_cons_succ]
              refine wpG_pure (i := 23) (v := ?v2x23) rfl rfl (by rfl) (fun w hB hG K hK => ?h2x23) ?_
              case h2x23 =>
                go_wp2_with fail
                exact hK _ (Below.refl _ _)
              simp only [List.set_cons_zero, List.set_cons_succ]
              refine wpG_op (i := 24) (v := ?v2x24) rfl rfl (by rfl) (fun w hB hG K hK => ?h2x24) ?_
              case h2x24 =>
                have hcx := (hB.cell (p := ⟨b, off + k * 2, none⟩) hbl).trans (drewc hc0)
                go_wp2_with fail
                exact hK _ (Below.refl _ _)
              simp only [List.set_cons_zero, List.set_cons_succ]
              refine wpG_move (i := 25) rfl rfl rfl (by rfl) rfl ?_
              simp only [List.set_cons_zero, List.set_cons_succ]
              refine wpG_move (i := 26) rfl rfl rfl (by rfl) rfl ?_
              simp only [List.set_cons_zero, List.set_cons_succ]
              refine wpG_pure (i := 27) (v := ?v2x27) rfl rfl (by rfl) (fun w hB hG K hK => ?h2x27) ?_
              case h2x27 =>
                go_wp2_with fail
                exact hK _ (Below.refl _ _)
              simp only [List.set_cons_zero, List.set_cons_succ]
              refine wpG_pure (i := 28) (v := ?v2x28) rfl rfl (by rfl) (fun w hB hG K hK => ?h2x28) ?_
              case h2x28 =>
                go_wp2_with fail
                exact hK _ (Below.refl _ _)
              simp only [List.set_cons_zero, List.set_cons_succ]
              refine wpG_op (i := 29) (v := ?v2x29) rfl rfl (by rfl) (fun w hB hG K hK => ?h2x29) ?_
              case h2x29 =>
                have hcx := (hB.cell (p := ⟨b', off' + k * 2, none⟩) hbl').trans (drewc hd0)
                go_wp2_with fail
                exact hK _ (Below.refl _ _)
              simp only [List.set_cons_zero, List.set_cons_succ]
              refine wpG_pure (i := 30) (v := ?v2x30) rfl rfl (by rfl) (fun w hB hG K hK => ?h2x30) ?_
              case h2x30 =>
                go_wp2_with fail
                exact hK _ (Below.refl _ _)
              simp only [List.set_cons_zero, List.set_cons_succ]
              refine wpG_pure (i := 31) (v := ?v2x31) rfl rfl (by rfl) (fun w hB hG K hK => ?h2x31) ?_
              case h2x31 =>
                go_wp2_with fail
                exact hK _ (Below.refl _ _)
              simp only [List.set_cons_zero, List.set_cons_succ]
              refine wpG_pure (i := 32) (v := ?v2x32) rfl rfl (by rfl) (fun w hB hG K hK => ?h2x32) ?_
              case h2x32 =>
                go_wp2_with fail
                exact hK _ (Below.refl _ _)
              simp only [List.set_cons_zero, List.set_cons_succ]
              refine wpG_nil (fun w2 hb2 hG2 => ?_)
              simp only [List.append_eq, List.cons_append, List.nil_append, List.drop_succ_cons, List.drop_zero, List.drop_nil]
              have O2 := Own.of hG2
              try simp only [List.setIfInBounds_toArray, List.set_cons_zero, List.set_cons_succ] at O2
              have bw2 : Below w.heap.size w w2 := Below.trans hb (Below.mono hb2 (by first | omega | (simp; done) | (simp; omega)))
              have zw2 := Below.size hb2
              try simp only [World.size_alloc, World.size_drew, World.size_setCell] at zw2
              have HO2 := Lib.hid O2
              clear O2 hb2
              go_wp2_with fail
              exact ⟨⟨k + 1, by omega, by go_num, HN'.out, bw2⟩, by simp [intOf]; omega⟩

            · have HAL : alikeC refBelowI up x y = false := by simp [alikeC, e1, hbq]
              rw [e2] at HB
              have hal' := alikeL_false k x y hx hy HAL
              have HN' := Lib.hid hal'
              clear hal'
              go_wp2_with fail
              refine wp_region_grow wr.heap.size 33 0 0 [(0, 0, 524288, 1), (1, 0, 1048576, 128), (2, 3, 2097152, 1572864), (3, 4, 4194304, 2097152), (4, 8, 8388608, 4194304), (5, 0, 16777216, 2), (6, 0, 33554432, 128), (7, 96, 67108864, 50331648), (8, 128, 134217728, 67108864), (9, 256, 268435456, 134217728), (10, 528, 536870912, 276824064), (11, 1024, 1073741824, 536870912), (12, 2048, 2147483648, 1073741825), (13, 2048, 4294967296, 1073741952), (14, 14336, 8589934592, 7516192768), (15, 18432, 17179869184, 9663676416), (16, 34816, 34359738368, 18253611008), (17, 2048, 68719476736, 1073741828), (18, 198656, 137438953472, 104152956928), (19, 264192, 274877906944, 138512695296), (20, 524288, 549755813888, 274877906945), (21, 524288, 1099511627776, 274877907072), (22, 3670016, 2199023255552, 1924145348608), (23, 4718592, 4398046511104, 2473901162496), (24, 8912896, 8796093022208, 4672924418048), (25, 524288, 17592186044416, 274877906946), (26, 524288, 35184372088832, 274877907072), (27, 101187584, 70368744177664, 53051436040192), (28, 134742016, 140737488355328, 70643622084608), (29, 268959744, 281474976710656, 141012366262272), (30, 554172416, 562949953421312, 290545947639808), (31, 1074268160, 1125899906842624, 563225905070080), (32, 2147485696, 2251799813685248, 1125900980584448)] [(.p 0, 1), (.p 1, 3), (.p 2, 7), (.p 3, 15), (.q 4, 31), (.p 5, 63), (.p 6, 127), (.p 7, 255), (.p 8, 511), (.q 9, 1023), (.p 10, 2047), (.p 11, 4095), (.p 12, 8191), (.p 13, 16383), (.p 14, 32767), (.p 15, 65535), (.q 16, 131071), (.p 17, 262143), (.p 18, 524287), (.p 19, 1048575), (.p 20, 2097151), (.p 21, 4194303), (.p 22, 8388607), (.p 23, 16777215), (.q 24, 33554431), (.p 25, 67108863), (.p 26, 134217727), (.p 27, 268435455), (.p 28, 536870911), (.q 29, 1073741823), (.p 30, 2147483647), (.p 31, 4294967295), (.p 32, 8589934591)] [] _ (fun p hp => hp) (by first | omega | (simp; done) | (simp; omega)) (by kernel_rfl) (by kernel_rfl) (Own.nil wr) ?_
              refine wpG_move (i := 0) rfl rfl rfl (by rfl) rfl ?_
              simp only [List.set_cons_zero, List.set_cons_succ]
              refine wpG_move (i := 1) rfl rfl rfl (by rfl) rfl ?_
              simp only [List.set_cons_zero, List.set_cons_succ]
              refine wpG_pure (i := 2) (v := ?v3x2) rfl rfl (by rfl) (fun w hB hG K hK => ?h3x2) ?_
              case h3x2 =>
                go_wp2_with fail
                exact hK _ (Below.refl _ _)
              simp only [List.set_cons_zero, List.set_cons_succ]
              refine wpG_pure (i := 3) (v := ?v3x3) rfl rfl (by rfl) (fun w hB hG K hK => ?h3x3) ?_
              case h3x3 =>
                go_wp2_with fail
                exact hK _ (Below.refl _ _)
              simp only [List.set_cons_zero, List.set_cons_succ]
              refine wpG_op (i := 4) (v := ?v3x4) rfl rfl (by rfl) (fun w hB hG K hK => ?h3x4) ?_
              case h3x4 =>
                have hcx := (hB.cell (p := ⟨b, off + k * 2 + 1, none⟩) hbl).trans (drewc hc1)
                go_wp2_with fail
                exact hK _ (Below.refl _ _)
              simp only [List.set_cons_zero, List.set_cons_succ]
              refine wpG_move (i := 5) rfl rfl rfl (by rfl) rfl ?_
              simp only [List.set_cons_zero, List.set_cons_succ]
              refine wpG_move (i := 6) rfl rfl rfl (by rfl) rfl ?_
              simp only [List.set_cons_zero, List.set_cons_succ]
              refine wpG_pure (i := 7) (v := ?v3x7) rfl rfl (by rfl) (fun w hB hG K hK => ?h3x7) ?_
              case h3x7 =>
                go_wp2_with fail
                exact hK _ (Below.refl _ _)
              simp only [List.set_cons_zero, List.set_cons_succ]
              refine wpG_pure (i := 8) (v := ?v3x8) rfl rfl (by rfl) (fun w hB hG K hK => ?h3x8) ?_
              case h3x8 =>
                go_wp2_with fail
                exact hK _ (Below.refl _ _)
              simp only [List.set_cons_zero, List.set_cons_succ]
              refine wpG_op (i := 9) (v := ?v3x9) rfl rfl (by rfl) (fun w hB hG K hK => ?h3x9) ?_
              case h3x9 =>
                have hcx := (hB.cell (p := ⟨b', off' + k * 2 + 1, none⟩) hbl').trans (drewc hd1)
                go_wp2_with fail
                exact hK _ (Below.refl _ _)
              simp only [List.set_cons_zero, List.set_cons_succ]
              refine wpG_pure (i := 10) (v := ?v3x10) rfl rfl (by rfl) (fun w hB hG K hK => ?h3x10) ?_
              case h3x10 =>
                go_wp2_with fail
                exact hK _ (Below.refl _ _)
              simp only [List.set_cons_zero, List.set_cons_succ]
              refine wpG_move (i := 11) rfl rfl rfl (by rfl) rfl ?_
              simp only [List.set_cons_zero, List.set_cons_succ]
              refine wpG_move (i := 12) rfl rfl rfl (by rfl) rfl ?_
              simp only [List.set_cons_zero, List.set_cons_succ]
              refine wpG_move (i := 13) rfl rfl rfl (by rfl) rfl ?_
              simp only [List.set_cons_zero, List.set_cons_succ]
              refine wpG_pure (i := 14) (v := ?v3x14) rfl rfl (by rfl) (fun w hB hG K hK => ?h3x14) ?_
              case h3x14 =>
                go_wp2_with fail
                exact hK _ (Below.refl _ _)
              simp only [List.set_cons_zero, List.set_cons_succ]
              refine wpG_pure (i := 15) (v := ?v3x15) rfl rfl (by rfl) (fun w hB hG K hK => ?h3x15) ?_
              case h3x15 =>
                go_wp2_with fail
                exact hK _ (Below.refl _ _)
              simp only [List.set_cons_zero, List.set_cons_succ]
              refine wpG_op (i := 16) (v := ?v3x16) rfl rfl (by rfl) (fun w hB hG K hK => ?h3x16) ?_
              case h3x16 =>
                have hcx := (hB.cell (p := ⟨b, off + k * 2 + 1, none⟩) hbl).trans (drewc hc1)
                go_wp2_with fail
                exact hK _ (Below.refl _ _)
              simp only [List.set_cons_zero, List.set_cons_succ]
              refine wpG_move (i := 17) rfl rfl rfl (by rfl) rfl ?_
              simp only [List.set_cons_zero, List.set_cons_succ]
              refine wpG_pure (i := 18) (v := ?v3x18) rfl rfl (by rfl) (fun w hB hG K hK => ?h3x18) ?_
              case h3x18 =>
                go_wp2_with fail
                refine (HB.out _).mono ?_
                rintro e wx ⟨rfl, rfl⟩
                exact hK _ (Below.refl _ _)
              simp only [List.set_cons_zero, List.set_cons_succ]
              refine wpG_move (i := 19) rfl rfl rfl (by rfl) rfl ?_
              simp only [List.set_cons_zero, List.set_cons_succ]
              refine wpG_move (i := 20) rfl rfl rfl (by rfl) rfl ?_
              simp only [List.set_cons_zero, List.set_cons_succ]
              refine wpG_move (i := 21) rfl rfl rfl (by rfl) rfl ?_
              simp only [List.set_cons_zero, List.set_cons_succ]
              refine wpG_pure (i := 22) (v := ?v3x22) rfl rfl (by rfl) (fun w hB hG K hK => ?h3x22) ?_
              case h3x22 =>
                go_wp2_with fail
                exact hK _ (Below.refl _ _)
              simp only [List.set_cons_zero, List.set_cons_succ]
              refine wpG_pure (i := 23) (v := ?v3x23) rfl rfl (by rfl) (fun w hB hG K hK => ?h3x23) ?_
              case h3x23 =>
                go_wp2_with fail
                exact hK _ (Below.refl _ _)
              simp only [List.set_cons_zero, List.set_cons_succ]
              refine wpG_op (i := 24) (v := ?v3x24) rfl rfl (by rfl) (fun w hB hG K hK => ?h3x24) ?_
              case h3x24 =>
                have hcx := (hB.cell (p := ⟨b, off + k * 2, none⟩) hbl).trans (drewc hc0)
                go_wp2_with fail
                exact hK _ (Below.refl _ _)
              simp only [List.set_cons_zero, List.set_cons_succ]
              refine wpG_move (i := 25) rfl rfl rfl (by rfl) rfl ?_
              simp only [List.set_cons_zero, List.set_cons_succ]
              refine wpG_move (i := 26) rfl rfl rfl (by rfl) rfl ?_
              simp only [List.set_cons_zero, List.set_cons_succ]
              refine wpG_pure (i := 27) (v := ?v3x27) rfl rfl (by rfl) (fun w hB hG K hK => ?h3x27) ?_
              case h3x27 =>
                go_wp2_with fail
                exact hK _ (Below.refl _ _)
              simp only [List.set_cons_zero, List.set_cons_succ]
              refine wpG_pure (i := 28) (v := ?v3x28) rfl rfl (by rfl) (fun w hB hG K hK => ?h3x28) ?_
              case h3x28 =>
                go_wp2_with fail
                exact hK _ (Below.refl _ _)
              simp only [List.set_cons_zero, List.set_cons_succ]
              refine wpG_op (i := 29) (v := ?v3x29) rfl rfl (by rfl) (fun w hB hG K hK => ?h3x29) ?_
              case h3x29 =>
                have hcx := (hB.cell (p := ⟨b', off' + k * 2, none⟩) hbl').trans (drewc hd0)
                go_wp2_with fail
                exact hK _ (Below.refl _ _)
              simp only [List.set_cons_zero, List.set_cons_succ]
              refine wpG_pure (i := 30) (v := ?v3x30) rfl rfl (by rfl) (fun w hB hG K hK => ?h3x30) ?_
              case h3x30 =>
                go_wp2_with fail
                exact hK _ (Below.refl _ _)
              simp only [List.set_cons_zero, List.set_cons_succ]
              refine wpG_pure (i := 31) (v := ?v3x31) rfl rfl (by rfl) (fun w hB hG K hK => ?h3x31) ?_
              case h3x31 =>
                go_wp2_with fail
                exact hK _ (Below.refl _ _)
              simp only [List.set_cons_zero, List.set_cons_succ]
              refine wpG_pure (i := 32) (v := ?v3x32) rfl rfl (by rfl) (fun w hB hG K hK => ?h3x32) ?_
              case h3x32 =>
                go_wp2_with fail
                exact hK _ (Below.refl _ _)
              simp only [List.set_cons_zero, List.set_cons_succ]
              refine wpG_nil (fun w3 hb3 hG3 => ?_)
              simp only [List.append_eq, List.cons_append, List.nil_append, List.drop_succ_cons, List.drop_zero, List.drop_nil]
              have O3 := Own.of hG3
              try simp only [List.setIfInBounds_toArray, List.set_cons_zero, List.set_cons_succ] at O3
              have bw3 : Below w.heap.size w w3 := Below.trans hb (Below.mono hb3 (by first | omega | (simp; done) | (simp; omega)))
              have zw3 := Below.size hb3
              try simp only [World.size_alloc, World.size_drew, World.size_setCell] at zw3
              have HO3 := Lib.hid O3
              clear O3 hb3
              go_wp2_with fail
              go_ret
              exact ⟨by rw [HN'.out]; rfl, bw3⟩

        · have HAL : alikeC refBelowI up x y = false := by simp [alikeC, e2]
          have e2' : (x.2 != y.2) = true := by simpa using e2
          have hal' := alikeL_false k x y hx hy HAL
          have HN' := Lib.hid hal'
          clear hal'
          go_wp2_with fail
          refine wp_region_grow wr.heap.size 33 0 0 [(0, 0, 524288, 1), (1, 0, 1048576, 128), (2, 3, 2097152, 1572864), (3, 4, 4194304, 2097152), (4, 8, 8388608, 4194304), (5, 0, 16777216, 2), (6, 0, 33554432, 128), (7, 96, 67108864, 50331648), (8, 128, 134217728, 67108864), (9, 256, 268435456, 134217728), (10, 528, 536870912, 276824064), (11, 1024, 1073741824, 536870912), (12, 2048, 2147483648, 1073741825), (13, 2048, 4294967296, 1073741952), (14, 14336, 8589934592, 7516192768), (15, 18432, 17179869184, 9663676416), (16, 34816, 34359738368, 18253611008), (17, 2048, 68719476736, 1073741828), (18, 198656, 137438953472, 104152956928), (19, 264192, 274877906944, 138512695296), (20, 524288, 549755813888, 274877906945), (21, 524288, 1099511627776, 274877907072), (22, 3670016, 2199023255552, 1924145348608), (23, 4718592, 4398046511104, 2473901162496), (24, 8912896, 8796093022208, 4672924418048), (25, 524288, 17592186044416, 274877906946), (26, 524288, 35184372088832, 274877907072), (27, 101187584, 70368744177664, 53051436040192), (28, 134742016, 140737488355328, 70643622084608), (29, 268959744, 281474976710656, 141012366262272), (30, 554172416, 562949953421312, 290545947639808), (31, 1074268160, 1125899906842624, 563225905070080), (32, 2147485696, 2251799813685248, 1125900980584448)] [(.p 0, 1), (.p 1, 3), (.p 2, 7), (.p 3, 15), (.q 4, 31), (.p 5, 63), (.p 6, 127), (.p 7, 255), (.p 8, 511), (.q 9, 1023), (.p 10, 2047), (.p 11, 4095), (.p 12, 8191), (.p 13, 16383), (.p 14, 32767), (.p 15, 65535), (.p 16, 131071), (.p 17, 262143), (.p 18, 524287), (.p 19, 1048575), (.p 20, 2097151), (.p 21, 4194303), (.p 22, 8388607), (.p 23, 16777215), (.p 24, 33554431), (.p 25, 67108863), (.p 26, 134217727), (.p 27, 268435455), (.p 28, 536870911), (.p 29, 1073741823), (.p 30, 2147483647), (.p 31, 4294967295), (.p 32, 8589934591)] [] _ (fun p hp => hp) (by first | omega | (simp; done) | (simp; omega)) (by kernel_rfl) (by kernel_rfl) (Own.nil wr) ?_
          refine wpG_move (i := 0) rfl rfl rfl (by rfl) rfl ?_
          simp only [List.set_cons_zero, List.set_cons_succ]
          refine wpG_move (i := 1) rfl rfl rfl (by rfl) rfl ?_
          simp only [List.set_cons_zero, List.set_cons_succ]
          refine wpG_pure (i := 2) (v := ?v4x2) rfl rfl (by rfl) (fun w hB hG K hK => ?h4x2) ?_
          case h4x2 =>
            go_wp2_with fail
            exact hK _ (Below.refl _ _)
          simp only [List.set_cons_zero, List.set_cons_succ]
          refine wpG_pure (i := 3) (v := ?v4x3) rfl rfl (by rfl) (fun w hB hG K hK => ?h4x3) ?_
          case h4x3 =>
            go_wp2_with fail
            exact hK _ (Below.refl _ _)
          simp only [List.set_cons_zero, List.set_cons_succ]
          refine wpG_op (i := 4) (v := ?v4x4) rfl rfl (by rfl) (fun w hB hG K hK => ?h4x4) ?_
          case h4x4 =>
            have hcx := (hB.cell (p := ⟨b, off + k * 2 + 1, none⟩) hbl).trans (drewc hc1)
            go_wp2_with fail
            exact hK _ (Below.refl _ _)
          simp only [List.set_cons_zero, List.set_cons_succ]
          refine wpG_move (i := 5) rfl rfl rfl (by rfl) rfl ?_
          simp only [List.set_cons_zero, List.set_cons_succ]
          refine wpG_move (i := 6) rfl rfl rfl (by rfl) rfl ?_
          simp only [List.set_cons_zero, List.set_cons_succ]
          refine wpG_pure (i := 7) (v := ?v4x7) rfl rfl (by rfl) (fun w hB hG K hK => ?h4x7) ?_
          case h4x7 =>
            go_wp2_with fail
            exact hK _ (Below.refl _ _)
          simp only [List.set_cons_zero, List.set_cons_succ]
          refine wpG_pure (i := 8) (v := ?v4x8) rfl rfl (by rfl) (fun w hB hG K hK => ?h4x8) ?_
          case h4x8 =>
            go_wp2_with fail
            exact hK _ (Below.refl _ _)
          simp only [List.set_cons_zero, List.set_cons_succ]
          refine wpG_op (i := 9) (v := ?v4x9) rfl rfl (by rfl) (fun w hB hG K hK => ?h4x9) ?_
          case h4x9 =>
            have hcx := (hB.cell (p := ⟨b', off' + k * 2 + 1, none⟩) hbl').trans (drewc hd1)
            go_wp2_with fail
            exact hK _ (Below.refl _ _)
          simp only [List.set_cons_zero, List.set_cons_succ]
          refine wpG_pure (i := 10) (v := ?v4x10) rfl rfl (by rfl) (fun w hB hG K hK => ?h4x10) ?_
          case h4x10 =>
            go_wp2_with fail
            exact hK _ (Below.refl _ _)
          simp only [List.set_cons_zero, List.set_cons_succ]
          refine wpG_move (i := 11) rfl rfl rfl (by rfl) rfl ?_
          simp only [List.set_cons_zero, List.set_cons_succ]
          refine wpG_skip (i := 12) rfl rfl (by rfl) ?_
          simp only [List.set_cons_zero, List.set_cons_succ]
          refine wpG_skip (i := 13) rfl rfl (by rfl) ?_
          simp only [List.set_cons_zero, List.set_cons_succ]
          refine wpG_skip (i := 14) rfl rfl (by rfl) ?_
          simp only [List.set_cons_zero, List.set_cons_succ]
          refine wpG_skip (i := 15) rfl rfl (by rfl) ?_
          simp only [List.set_cons_zero, List.set_cons_succ]
          refine wpG_skip (i := 16) rfl rfl (by rfl) ?_
          simp only [List.set_cons_zero, List.set_cons_succ]
          refine wpG_skip (i := 17) rfl rfl (by rfl) ?_
          simp only [List.set_cons_zero, List.set_cons_succ]
          refine wpG_skip (i := 18) rfl rfl (by rfl) ?_
          simp only [List.set_cons_zero, List.set_cons_succ]
          refine wpG_skip (i := 19) rfl rfl (by rfl) ?_
          simp only [List.set_cons_zero, List.set_cons_succ]
          refine wpG_skip (i := 20) rfl rfl (by rfl) ?_
          simp only [List.set_cons_zero, List.set_cons_succ]
          refine wpG_skip (i := 21) rfl rfl (by rfl) ?_
          simp only [List.set_cons_zero, List.set_cons_succ]
          refine wpG_skip (i := 22) rfl rfl (by rfl) ?_
          simp only [List.set_cons_zero, List.set_cons_succ]
          refine wpG_skip (i := 23) rfl rfl (by rfl) ?_
          simp only [List.set_cons_zero, List.set_cons_succ]
          refine wpG_skip (i := 24) rfl rfl (by rfl) ?_
          simp only [List.set_cons_zero, List.set_cons_succ]
          refine wpG_skip (i := 25) rfl rfl (by rfl) ?_
          simp only [List.set_cons_zero, List.set_cons_succ]
          refine wpG_skip (i := 26) rfl rfl (by rfl) ?_
          simp only [List.set_cons_zero, List.set_cons_succ]
          refine wpG_skip (i := 27) rfl rfl (by rfl) ?_
          simp only [List.set_cons_zero, List.set_cons_succ]
          refine wpG_skip (i := 28) rfl rfl (by rfl) ?_
          simp only [List.set_cons_zero, List.set_cons_succ]
          refine wpG_skip (i := 29) rfl rfl (by rfl) ?_
          simp only [List.set_cons_zero, List.set_cons_succ]
          refine wpG_skip (i := 30) rfl rfl (by rfl) ?_
          simp only [List.set_cons_zero, List.set_cons_succ]
          refine wpG_skip (i := 31) rfl rfl (by rfl) ?_
          simp only [List.set_cons_zero, List.set_cons_succ]
          refine wpG_pure (i := 32) (v := ?v4x32) rfl rfl (by rfl) (fun w hB hG K hK => ?h4x32) ?_
          case h4x32 =>
            go_wp2_with fail
            exact hK _ (Below.refl _ _)
          simp only [List.set_cons_zero, List.set_cons_succ]
          refine wpG_nil (fun w4 hb4 hG4 => ?_)
          simp only [List.append_eq, List.cons_append, List.nil_append, List.drop_succ_cons, List.drop_zero, List.drop_nil]
          have O4 := Own.of hG4
          try simp only [List.setIfInBounds_toArray, List.set_cons_zero, List.set_cons_succ] at O4
          have bw4 : Below w.heap.size w w4 := Below.trans hb (Below.mono hb4 (by first | omega | (simp; done) | (simp; omega)))
          have zw4 := Below.size hb4
          try simp only [World.size_alloc, World.size_drew, World.size_setCell] at zw4
          have HO4 := Lib.hid O4
          clear O4 hb4
          go_wp2_with fail
          go_ret
          exact ⟨by rw [HN'.out]; rfl, bw4⟩

      · obtain rfl : k = n := by omega
        have hal := alikeL_true (bl := refBelowI) (up := up) (hln.trans hlm.symm) (fun j x y hx hy => HN.out j (by rw [← hln]; exact (List.getElem?_eq_some_iff.1 hx).1) x y hx hy)
        have HA := Lib.hid hal
        clear hal
        go_wp2_with fail
        go_ret
        exact ⟨by rw [HA.out]; rfl, hb⟩
  · have hal := alikeL_len (bl := refBelowI) (up := up) (xs := xs) (ys := ys) (by omega)
    have HA := Lib.hid hal
    have hd : ¬ ((n : Nat) : Int) = ((m : Nat) : Int) := by omega
    clear hal
    go_enter Try.func27, Try.ntmps27
    go_wp2_with fail
    go_ret
    exact ⟨by rw [HA.out]; rfl, Below.refl _ _⟩
end Go.Proofs.Ytknkepokkenokaa
