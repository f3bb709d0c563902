/- The law PriceReaches: its walks. -/
import Derived.Test.YtclgoamhbakdlaaPriceS
import Derived.Test.YtclgoamhbakdlaaPriceT
set_option linter.unusedVariables false
set_option linter.unusedSimpArgs false
namespace Go.Proofs.Ytclgoamhbakdlaa
open Go.RowKit
attribute [local go_sem] Oper.semAt_some

theorem run_equalIn_func_nil {P : Program} (d : Nat) {t : TypeId} {ps rs : Array TypeId} {v : Bool} (h : P.underlying t = some (.func ps rs v)) (fn : Fn) (fi ca : Array Value) (w : World) : (Op.equalIn (d + 1) t (.func fn fi ca) .nilFunc).run P w = .ok false w := by
  simp [Op.equalIn, run_underlying h]
theorem run_equal_func_nil {P : Program} {t : TypeId} {ps rs : Array TypeId} {v : Bool} (h : P.underlying t = some (.func ps rs v)) (fn : Fn) (fi ca : Array Value) (w : World) : (Op.equal t (.func fn fi ca) .nilFunc).run P w = .ok false w := run_equalIn_func_nil 9999 h fn fi ca w
theorem run_eql_func_nil {P : Program} {t : TypeId} {ps rs : Array TypeId} {v : Bool} (h : P.underlying t = some (.func ps rs v)) (fn : Fn) (fi ca : Array Value) (w : World) : (binOp .eql t (.func fn fi ca) .nilFunc).run P w = .ok (.bool false) w := by
  simp only [binOp]
  simp [run_equal_func_nil h]
theorem refReach_yes {n : Int} {xs : List WW} {k : Nat} {x : WW} (hx : xs[k]? = some x) (he : eK n xs k = 0) (w : World) :
    Calls Try.prog 21 #[.int .i64 (nK n xs k), W x.1, W x.2] w fun e w' => e = .returned (.tuple #[.int .i64 (nK n xs (k + 1)), .int .u64 (reachC (nK n xs k) (atW xs k).1 (atW xs k).2), .int .i64 0]) ∧ Below w.heap.size w w' := by
  have h := refReach_any (nK n xs k) x.1 x.2 w
  have ha := atW_of hx
  unfold eK at he
  rw [ha] at he ⊢
  rw [he] at h
  simp only [nK, ha]
  exact h
theorem reach_nil {n : Int} {x y : BitVec 256} (h : reachE n x y ≠ 0) : reachN n x y = 0 ∧ reachC n x y = 0 := by
  unfold reachE at h
  unfold reachN reachC
  split
  · rename_i h1
    rw [if_pos h1] at h
    split
    · rename_i h2; rw [if_pos h2] at h; exact absurd rfl h
    · rename_i h2
      rw [if_neg h2] at h
      split
      · rename_i h3; rw [if_pos h3] at h; exact absurd rfl h
      · exact ⟨rfl, rfl⟩
  · exact ⟨rfl, rfl⟩
theorem reach_none {n : Int} {xs : List WW} {k : Nat} {x : WW} (hx : xs[k]? = some x) (he : eK n xs k ≠ 0) (w : World) :
    Calls Try.prog 19 #[.int .i64 (nK n xs k), W x.1, W x.2] w fun e w' => e = .returned (.tuple #[.int .i64 0, .int .u64 0, .int .i64 (eK n xs k)]) ∧ Below w.heap.size w w' := by
  have h := reach_any (nK n xs k) x.1 x.2 w
  have ha := atW_of hx
  unfold eK at he ⊢
  rw [ha] at he ⊢
  obtain ⟨h1, h2⟩ := reach_nil he
  rw [h1, h2] at h
  exact h
theorem refReach_none {n : Int} {xs : List WW} {k : Nat} {x : WW} (hx : xs[k]? = some x) (he : eK n xs k ≠ 0) (w : World) :
    Calls Try.prog 21 #[.int .i64 (nK n xs k), W x.1, W x.2] w fun e w' => e = .returned (.tuple #[.int .i64 0, .int .u64 0, .int .i64 (eK n xs k)]) ∧ Below w.heap.size w w' := by
  have h := refReach_any (nK n xs k) x.1 x.2 w
  have ha := atW_of hx
  unfold eK at he ⊢
  rw [ha] at he ⊢
  obtain ⟨h1, h2⟩ := reach_nil he
  rw [h1, h2] at h
  exact h

set_option maxHeartbeats 16000000 in
set_option maxRecDepth 100000 in
theorem preach_s (A : Option Addr) (ln cap : Nat) (n many : Int) (w : World) (h : 12 < ln) :
    Calls Try.prog 6 #[.int .i64 n, .slice A ln cap, .int .i64 many] w fun e w' => e = .returned (.bool true) ∧ Below w.heap.size w w' := by
  have d1 : decide ((12 : Int) < ln) = true := by simp <;> omega
  go_enter Try.func6, Try.ntmps6
  go_wp2_with fail
  refine (works_any _).mono ?_
  rintro e w1 ⟨rfl, hb1⟩
  have O1 := Own.grow' hb1 (Own.new (Own.new (Own.new (Own.nil w) (w.heap.size) rfl) (w.heap.size + 1) (by simp)) (w.heap.size + 1 + 1) (by simp))
  try simp only [List.setIfInBounds_toArray, List.set_cons_zero, List.set_cons_succ] at O1
  have bw1 : Below w.heap.size w w1 := Below.trans (by go_grown) (Below.mono hb1 (by first | omega | (simp; done) | (simp; omega)))
  have zw1 := Below.size hb1
  try simp only [World.size_alloc, World.size_drew, World.size_setCell] at zw1
  have c1x0 := Own.cell O1 0 rfl
  have f1x0 := Own.free O1 0 rfl
  have l1x0 := Own.lt O1 0 rfl
  have l1x0d0 := le_up 0 l1x0
  have l1x0d1 := le_up 1 l1x0
  simp only [upN] at l1x0d0 l1x0d1
  have c1x1 := Own.cell O1 1 rfl
  have f1x1 := Own.free O1 1 rfl
  have l1x1 := Own.lt O1 1 rfl
  have l1x1d0 := le_up 0 l1x1
  have l1x1d1 := le_up 1 l1x1
  simp only [upN] at l1x1d0 l1x1d1
  have c1x2 := Own.cell O1 2 rfl
  have f1x2 := Own.free O1 2 rfl
  have l1x2 := Own.lt O1 2 rfl
  have l1x2d0 := le_up 0 l1x2
  have l1x2d1 := le_up 1 l1x2
  simp only [upN] at l1x2d0 l1x2d1
  have HO1 := Lib.hid O1
  clear O1 hb1
  go_wp2_with fail
  refine bodyPost_ret (v := .bool true) (by simp [results, Try.results6, go_sem, *]) rfl ?_
  exact ⟨rfl, by go_grown⟩

set_option maxHeartbeats 16000000 in
set_option maxRecDepth 100000 in
theorem preach_gl (A : Option Addr) (n : Int) (xs : List WW) (cap m : Nat) (many : Int) (w : World) (hS : SlAt w A (pairsC xs)) (hcap : xs.length ≤ cap) (hn : xs.length ≤ 12) (hm : Upto n xs m) (hms : m = xs.length) :
    Calls Try.prog 6 #[.int .i64 n, .slice A xs.length cap, .int .i64 many] w fun e w' => e = .returned (.bool true) ∧ Below w.heap.size w w' := by
  have qF := run_eql_func_nil Try.underlying51
  have HX := Lib.hid (fun (W : World) (hb : Below w.heap.size w W) => hS.below rfl hb)
  have HSZ := Lib.hid (fun (W : World) (hW : SlAt W A (pairsC xs)) => sizes_any A n xs cap m W hW hcap (by omega) hm)
  have HM := Lib.hid hm
  have hml := hm.1
  clear hS hm
  generalize hln : xs.length = ln at *
  have d101 : decide ((12 : Int) < ln) = false := by simp <;> omega
  refine calls_marks Try.func6 rfl ?_
  simp only [Try.ntmps6, List.size_toArray, List.length_cons, List.length_nil, Nat.reduceAdd, Nat.reduceSub, Array.replicate_succ, Array.replicate_zero, List.push_toArray, List.append_toArray, List.nil_append, List.cons_append]
  go_wp2_with fail
  refine (HSZ.out _ (HX.out _ (by go_grown))).mono ?_
  rintro e w1 ⟨bk, bk2, n0, rfl, hn0, hseq, hb1⟩
  have O1 := Own.grow' hb1 (Own.new (Own.new (Own.new (Own.nil w) (w.heap.size) rfl) (w.heap.size + 1) (by simp)) (w.heap.size + 1 + 1) (by simp))
  try simp only [List.setIfInBounds_toArray, List.set_cons_zero, List.set_cons_succ] at O1
  have bw1 : Below w.heap.size w w1 := Below.trans (by go_grown) (Below.mono hb1 (by first | omega | (simp; done) | (simp; omega)))
  have zw1 := Below.size hb1
  try simp only [World.size_alloc, World.size_drew, World.size_setCell] at zw1
  have c1x0 := Own.cell O1 0 rfl
  have f1x0 := Own.free O1 0 rfl
  have l1x0 := Own.lt O1 0 rfl
  have l1x0d0 := le_up 0 l1x0
  have l1x0d1 := le_up 1 l1x0
  simp only [upN] at l1x0d0 l1x0d1
  have c1x1 := Own.cell O1 1 rfl
  have f1x1 := Own.free O1 1 rfl
  have l1x1 := Own.lt O1 1 rfl
  have l1x1d0 := le_up 0 l1x1
  have l1x1d1 := le_up 1 l1x1
  simp only [upN] at l1x1d0 l1x1d1
  have c1x2 := Own.cell O1 2 rfl
  have f1x2 := Own.free O1 2 rfl
  have l1x2 := Own.lt O1 2 rfl
  have l1x2d0 := le_up 0 l1x2
  have l1x2d1 := le_up 1 l1x2
  simp only [upN] at l1x2d0 l1x2d1
  have HO1 := Lib.hid O1
  clear O1 hb1
  subst hn0
  have HSEQ := Lib.hid hseq
  clear hseq
  go_wp2_with fail
  refine wp_loop_rounds 3 ?_
  rw [rounds_succ]
  go_wp2_with fail
  refine wp_name fun WL0 hWL0 => ?_
  have zWL0 : WL0.heap.size = w1.heap.size + 4 := by rw [hWL0]; simp
  have hbWL0 : Below w.heap.size w WL0 := by rw [hWL0]; go_grown
  have hkS0 : Keep (fun k => k < w1.heap.size) w1 WL0 := by rw [hWL0]; exact (Keep.alloc (Keep.alloc (Keep.alloc (Keep.alloc (Keep.refl (fun k => k < w1.heap.size) w1) _) _) _) _)
  have hoL0 := Lib.hid (show Own _ WL0 by rw [hWL0]; exact (Own.new (Own.new (Own.new (Own.new HO1.out (w1.heap.size) rfl) (w1.heap.size + 1) (by simp)) (w1.heap.size + 1 + 1) (by simp)) (w1.heap.size + 1 + 1 + 1) (by simp)))
  clear hWL0
  have hI0 : AnyFrom WL0.heap.size (EI (fun (k : Nat) => [(w1.heap.size + 1 + 1 + 1, #[.int .i64 (k : Nat)], 3), (w1.heap.size + 1 + 1, #[.int .u64 (aK n xs k)], 25), (w1.heap.size + 1, #[.int .i64 (nK n xs k)], 3), (w1.heap.size, #[.int .i64 0], 3), (w.heap.size + 1 + 1, #[.bool false], 4), (w.heap.size + 1, #[.int .i64 many], 3), (w.heap.size, #[.slice A ln cap], 49)]) w.heap.size w [] (fun k => k < w1.heap.size) w1) := EI.any (by simp only [List.mem_cons, List.not_mem_nil, or_false, forall_eq, forall_eq_or_imp]; first | omega | exact fun _ h => h.elim | simp) (by simp only [List.mem_cons, List.not_mem_nil, or_false, forall_eq, forall_eq_or_imp]; first | omega | exact fun _ h => h.elim | simp) (Nat.le_refl _) (by have := hbWL0.size; omega) (fun k hk => by first | omega | (dsimp only at hk; omega))
  refine wp_each_block (w0 := w1) (S := (fun k => k < w1.heap.size)) (xs := zsK n xs m) (encs := encZ) rfl (enters_of Try.func33 (by kernel_rfl) rfl) HSEQ.out (fun k hk => by first | omega | (dsimp only at hk; omega)) hkS0 (fun _ _ => rfl) (fun k V => EI (fun (k : Nat) => [(w1.heap.size + 1 + 1 + 1, #[.int .i64 (k : Nat)], 3), (w1.heap.size + 1 + 1, #[.int .u64 (aK n xs k)], 25), (w1.heap.size + 1, #[.int .i64 (nK n xs k)], 3), (w1.heap.size, #[.int .i64 0], 3), (w.heap.size + 1 + 1, #[.bool false], 4), (w.heap.size + 1, #[.int .i64 many], 3), (w.heap.size, #[.slice A ln cap], 49)]) w.heap.size w [] (fun k => k < w1.heap.size) w1 k V) (fun k V => EI (fun (k : Nat) => [(w1.heap.size + 1 + 1 + 1, #[.int .i64 (k : Nat)], 3), (w1.heap.size + 1 + 1, #[.int .u64 (aK n xs k)], 25), (w1.heap.size + 1, #[.int .i64 (nK n xs k)], 3), (w1.heap.size, #[.int .i64 0], 3), (w.heap.size + 1 + 1, #[.bool false], 4), (w.heap.size + 1, #[.int .i64 many], 3), (w.heap.size, #[.slice A ln cap], 49)]) w.heap.size w [] (fun k => k < w1.heap.size) w1 k V) ?hI0 ?hIx0 ?h00 ?round0 ?hend0
  case hI0 => exact hI0
  case hIx0 => exact hI0
  case h00 => exact ⟨hoL0.out, hbWL0, fun D h => (by cases h), hkS0⟩
  case round0 =>
    rintro l' k x V hx hE hl'
    gi_wp2
    refine ⟨Keep.refl _ _, EI (fun (k : Nat) => [(w1.heap.size + 1 + 1 + 1, #[.int .i64 (k : Nat)], 3), (w1.heap.size + 1 + 1, #[.int .u64 (aK n xs k)], 25), (w1.heap.size + 1, #[.int .i64 (nK n xs k)], 3), (w1.heap.size, #[.int .i64 0], 3), (w.heap.size + 1 + 1, #[.bool false], 4), (w.heap.size + 1, #[.int .i64 many], 3), (w.heap.size, #[.slice A ln cap], 49)]) w.heap.size w [] (fun k => k < w1.heap.size) w1 k, fun _ V V2 row h hg hr => hI0.from k V V2 row h hg hr, hE, ?body0⟩
    case body0 =>
      rintro V2 ⟨hO2, hb2, hD2, hK2⟩
      dsimp only at hO2
      have hkm : k < m := by have := (List.getElem?_eq_some_iff.1 hx).1; rw [zsK_len] at this; exact this
      obtain rfl : x = (nK n xs (k + 1), aK n xs (k + 1)) := by rw [zsK_at hkm] at hx; cases hx; rfl
      clear hx
      obtain ⟨y, hy⟩ : ∃ y, xs[k]? = some y := ⟨xs[k]'(by rw [hln]; omega), by simp⟩
      obtain ⟨b', off, rfl, hbl, hcell⟩ := (HX.out V2 hb2).cell (pairsC_at (j := 0) hy (by rfl))
      have hc0 : V2.cell? ⟨b', off + k * 8, none⟩ = some (.int .u64 (L y.1 0)) := by have := hcell (k * 8) _ (pairsC_at (j := 0) hy (by rfl)); simpa [Nat.add_assoc] using this
      have hc1 : V2.cell? ⟨b', off + k * 8 + 1, none⟩ = some (.int .u64 (L y.1 1)) := by have := hcell (k * 8 + 1) _ (pairsC_at (j := 1) hy (by rfl)); simpa [Nat.add_assoc] using this
      have hc2 : V2.cell? ⟨b', off + k * 8 + 2, none⟩ = some (.int .u64 (L y.1 2)) := by have := hcell (k * 8 + 2) _ (pairsC_at (j := 2) hy (by rfl)); simpa [Nat.add_assoc] using this
      have hc3 : V2.cell? ⟨b', off + k * 8 + 3, none⟩ = some (.int .u64 (L y.1 3)) := by have := hcell (k * 8 + 3) _ (pairsC_at (j := 3) hy (by rfl)); simpa [Nat.add_assoc] using this
      have hc4 : V2.cell? ⟨b', off + k * 8 + 4, none⟩ = some (.int .u64 (L y.2 0)) := by have := hcell (k * 8 + 4) _ (pairsC_at (j := 4) hy (by rfl)); simpa [Nat.add_assoc] using this
      have hc5 : V2.cell? ⟨b', off + k * 8 + 5, none⟩ = some (.int .u64 (L y.2 1)) := by have := hcell (k * 8 + 5) _ (pairsC_at (j := 5) hy (by rfl)); simpa [Nat.add_assoc] using this
      have hc6 : V2.cell? ⟨b', off + k * 8 + 6, none⟩ = some (.int .u64 (L y.2 2)) := by have := hcell (k * 8 + 6) _ (pairsC_at (j := 6) hy (by rfl)); simpa [Nat.add_assoc] using this
      have hc7 : V2.cell? ⟨b', off + k * 8 + 7, none⟩ = some (.int .u64 (L y.2 3)) := by have := hcell (k * 8 + 7) _ (pairsC_at (j := 7) hy (by rfl)); simpa [Nat.add_assoc] using this
      clear hcell
      have hkb : k < 100 := by omega
      have d2 : decide ((ln : Int) ≤ k) = false := by simp; omega
      have d2' : decide (ln ≤ k) = false := by simp; omega
      have hRX := fun V => refReach_yes hy (HM.out.2.1 k hkm) V
      have habd := aK_bd n xs k
      have hcbd := reachC_bd (nK n xs k) (atW xs k).1 (atW xs k).2
      have hwr : IntKind.u64.wrap (aK n xs k + reachC (nK n xs k) (atW xs k).1 (atW xs k).2) = aK n xs (k + 1) := by rw [IntWalk.u64_in _ (by omega)]; rfl
      generalize hcK : reachC (nK n xs k) (atW xs k).1 (atW xs k).2 = cK at *
      generalize hn1 : nK n xs (k + 1) = n1 at *
      generalize ha1 : aK n xs (k + 1) = a1 at *
      generalize nK n xs k = nk at *
      generalize aK n xs k = ak at *
      have HRX := Lib.hid hRX
      clear hRX
      have HVB := Lib.hid hb2
      have HVD := Lib.hid hD2
      have HVK := Lib.hid hK2
      clear hD2 hK2 hE habd hcbd hcK
      have O2 := hO2
      have c2x0 := Own.cell O2 0 rfl
      have f2x0 := Own.free O2 0 rfl
      have l2x0 := Own.lt O2 0 rfl
      have l2x0d0 := le_up 0 l2x0
      have l2x0d1 := le_up 1 l2x0
      simp only [upN] at l2x0d0 l2x0d1
      have c2x1 := Own.cell O2 1 rfl
      have f2x1 := Own.free O2 1 rfl
      have l2x1 := Own.lt O2 1 rfl
      have l2x1d0 := le_up 0 l2x1
      have l2x1d1 := le_up 1 l2x1
      simp only [upN] at l2x1d0 l2x1d1
      have c2x2 := Own.cell O2 2 rfl
      have f2x2 := Own.free O2 2 rfl
      have l2x2 := Own.lt O2 2 rfl
      have l2x2d0 := le_up 0 l2x2
      have l2x2d1 := le_up 1 l2x2
      simp only [upN] at l2x2d0 l2x2d1
      have c2x3 := Own.cell O2 3 rfl
      have f2x3 := Own.free O2 3 rfl
      have l2x3 := Own.lt O2 3 rfl
      have l2x3d0 := le_up 0 l2x3
      have l2x3d1 := le_up 1 l2x3
      simp only [upN] at l2x3d0 l2x3d1
      have c2x4 := Own.cell O2 4 rfl
      have f2x4 := Own.free O2 4 rfl
      have l2x4 := Own.lt O2 4 rfl
      have l2x4d0 := le_up 0 l2x4
      have l2x4d1 := le_up 1 l2x4
      simp only [upN] at l2x4d0 l2x4d1
      have c2x5 := Own.cell O2 5 rfl
      have f2x5 := Own.free O2 5 rfl
      have l2x5 := Own.lt O2 5 rfl
      have l2x5d0 := le_up 0 l2x5
      have l2x5d1 := le_up 1 l2x5
      simp only [upN] at l2x5d0 l2x5d1
      have c2x6 := Own.cell O2 6 rfl
      have f2x6 := Own.free O2 6 rfl
      have l2x6 := Own.lt O2 6 rfl
      have l2x6d0 := le_up 0 l2x6
      have l2x6d1 := le_up 1 l2x6
      simp only [upN] at l2x6d0 l2x6d1
      have HO2 := Lib.hid O2
      clear O2
      by_cases hk2 : (k : Int) + 1 < many
      · have d3 : decide (many ≤ (k : Int) + 1) = false := by simp; omega
        gi_wp2
        refine regInG (by kernel_rfl) (fun ⟨_, _, h⟩ => h) V2.heap.size 19 0 0 [(0, 0, 35184372088832, 512), (1, 0, 70368744177664, 16), (2, 0, 140737488355328, 2048), (3, 6, 281474976710656, 211106232532992), (4, 8, 562949953421312, 281474976710656), (5, 16, 1125899906842624, 562949953421312), (6, 0, 2251799813685248, 16), (7, 0, 4503599627370496, 2048), (8, 192, 9007199254740992, 6755399441055744), (9, 256, 18014398509481984, 9007199254740992), (10, 512, 36028797018963968, 18014398509481984), (11, 1057, 72057594037927936, 37189881297895424), (12, 2048, 17592186044416, 72057594037927936), (13, 4096, 144115188075855872, 17592186044416), (14, 4096, 288230376151711744, 17592186044416), (15, 4096, 576460752303423488, 17592186044416), (16, 16383, 16384, 144115188075855872), (17, 98303, 32768, 288230376151711744), (18, 262143, 65536, 576460752303423488)] [(.p 0, 1), (.p 1, 3), (.p 2, 7), (.p 3, 15), (.p 4, 31), (.q 5, 63), (.p 6, 127), (.p 7, 255), (.p 8, 511), (.p 9, 1023), (.q 10, 2047), (.p 11, 4095), (.p 12, 8191), (.p 13, 16383), (.p 14, 32767), (.p 15, 65535), (.p 16, 131071), (.p 17, 262143), (.p 18, 524287)] [] _ (fun p hp => hp) (by first | omega | (simp; done) | (simp; omega)) (by kernel_rfl) (by kernel_rfl) HO2.out ?_
        refine wpG_pure (i := 0) (v := ?v3x0) rfl rfl (by rfl) (fun w hB hG K hK => ?h3x0) ?_
        case h3x0 =>
          have cx := Own.cell hG 2 rfl
          go_wp2_with fail
          exact hK _ (Below.refl _ _)
        simp only [List.set_cons_zero, List.set_cons_succ]
        refine wpG_pure (i := 1) (v := ?v3x1) rfl rfl (by rfl) (fun w hB hG K hK => ?h3x1) ?_
        case h3x1 =>
          have cx := Own.cell hG 6 rfl
          go_wp2_with fail
          exact hK _ (Below.refl _ _)
        simp only [List.set_cons_zero, List.set_cons_succ]
        refine wpG_pure (i := 2) (v := ?v3x2) rfl rfl (by rfl) (fun w hB hG K hK => ?h3x2) ?_
        case h3x2 =>
          have cx := Own.cell hG 0 rfl
          go_wp2_with fail
          exact hK _ (Below.refl _ _)
        simp only [List.set_cons_zero, List.set_cons_succ]
        refine wpG_pure (i := 3) (v := ?v3x3) rfl rfl (by rfl) (fun w hB hG K hK => ?h3x3) ?_
        case h3x3 =>
          go_wp2_with fail
          exact hK _ (Below.refl _ _)
        simp only [List.set_cons_zero, List.set_cons_succ]
        refine wpG_pure (i := 4) (v := ?v3x4) rfl rfl (by rfl) (fun w hB hG K hK => ?h3x4) ?_
        case h3x4 =>
          go_wp2_with fail
          exact hK _ (Below.refl _ _)
        simp only [List.set_cons_zero, List.set_cons_succ]
        refine wpG_op (i := 5) (v := ?v3x5) rfl rfl (by rfl) (fun w hB hG K hK => ?h3x5) ?_
        case h3x5 =>
          have hx0 := (hB.cell (p := ⟨b', off + k * 8, none⟩) (World.block_lt_of_cell? V2 _ hc0)).trans hc0
          have hx1 := (hB.cell (p := ⟨b', off + k * 8 + 1, none⟩) (World.block_lt_of_cell? V2 _ hc1)).trans hc1
          have hx2 := (hB.cell (p := ⟨b', off + k * 8 + 2, none⟩) (World.block_lt_of_cell? V2 _ hc2)).trans hc2
          have hx3 := (hB.cell (p := ⟨b', off + k * 8 + 3, none⟩) (World.block_lt_of_cell? V2 _ hc3)).trans hc3
          go_wp2_with fail
          exact hK _ (Below.refl _ _)
        simp only [List.set_cons_zero, List.set_cons_succ]
        refine wpG_pure (i := 6) (v := ?v3x6) rfl rfl (by rfl) (fun w hB hG K hK => ?h3x6) ?_
        case h3x6 =>
          have cx := Own.cell hG 6 rfl
          go_wp2_with fail
          exact hK _ (Below.refl _ _)
        simp only [List.set_cons_zero, List.set_cons_succ]
        refine wpG_pure (i := 7) (v := ?v3x7) rfl rfl (by rfl) (fun w hB hG K hK => ?h3x7) ?_
        case h3x7 =>
          have cx := Own.cell hG 0 rfl
          go_wp2_with fail
          exact hK _ (Below.refl _ _)
        simp only [List.set_cons_zero, List.set_cons_succ]
        refine wpG_pure (i := 8) (v := ?v3x8) rfl rfl (by rfl) (fun w hB hG K hK => ?h3x8) ?_
        case h3x8 =>
          go_wp2_with fail
          exact hK _ (Below.refl _ _)
        simp only [List.set_cons_zero, List.set_cons_succ]
        refine wpG_pure (i := 9) (v := ?v3x9) rfl rfl (by rfl) (fun w hB hG K hK => ?h3x9) ?_
        case h3x9 =>
          go_wp2_with fail
          exact hK _ (Below.refl _ _)
        simp only [List.set_cons_zero, List.set_cons_succ]
        refine wpG_op (i := 10) (v := ?v3x10) rfl rfl (by rfl) (fun w hB hG K hK => ?h3x10) ?_
        case h3x10 =>
          have hx4 := (hB.cell (p := ⟨b', off + k * 8 + 4, none⟩) (World.block_lt_of_cell? V2 _ hc4)).trans hc4
          have hx5 := (hB.cell (p := ⟨b', off + k * 8 + 5, none⟩) (World.block_lt_of_cell? V2 _ hc5)).trans hc5
          have hx6 := (hB.cell (p := ⟨b', off + k * 8 + 6, none⟩) (World.block_lt_of_cell? V2 _ hc6)).trans hc6
          have hx7 := (hB.cell (p := ⟨b', off + k * 8 + 7, none⟩) (World.block_lt_of_cell? V2 _ hc7)).trans hc7
          have hx4' := hx4
          have hx5' := hx5
          have hx6' := hx6
          have hx7' := hx7
          go_wp2_with fail
          exact hK _ (Below.refl _ _)
        simp only [List.set_cons_zero, List.set_cons_succ]
        refine wpG_pure (i := 11) (v := ?v3x11) rfl rfl (by rfl) (fun w hB hG K hK => ?h3x11) ?_
        case h3x11 =>
          go_wp2_with fail
          refine (HRX.out _).mono ?_
          rintro e wx ⟨rfl, hbx⟩
          exact hK _ hbx
        simp only [List.set_cons_zero, List.set_cons_succ]
        refine wpG_move (i := 12) rfl rfl rfl (by rfl) rfl ?_
        simp only [List.set_cons_zero, List.set_cons_succ]
        refine wpG_pure (i := 13) (v := ?v3x13) rfl rfl (by rfl) (fun w hB hG K hK => ?h3x13) ?_
        case h3x13 =>
          go_wp2_with fail
          exact hK _ (Below.refl _ _)
        simp only [List.set_cons_zero, List.set_cons_succ]
        refine wpG_pure (i := 14) (v := ?v3x14) rfl rfl (by rfl) (fun w hB hG K hK => ?h3x14) ?_
        case h3x14 =>
          go_wp2_with fail
          exact hK _ (Below.refl _ _)
        simp only [List.set_cons_zero, List.set_cons_succ]
        refine wpG_pure (i := 15) (v := ?v3x15) rfl rfl (by rfl) (fun w hB hG K hK => ?h3x15) ?_
        case h3x15 =>
          go_wp2_with fail
          exact hK _ (Below.refl _ _)
        simp only [List.set_cons_zero, List.set_cons_succ]
        refine wpG_assign (i := 16) rfl rfl rfl (by rfl) rfl ?_
        simp only [List.set_cons_zero, List.set_cons_succ]
        refine wpG_assign (i := 17) rfl rfl rfl (by rfl) rfl ?_
        simp only [List.set_cons_zero, List.set_cons_succ]
        refine wpG_assign (i := 18) rfl rfl rfl (by rfl) rfl ?_
        simp only [List.set_cons_zero, List.set_cons_succ]
        refine wpG_nil (fun w3 hb3 hG3 => ?_)
        simp only [List.append_eq, List.cons_append, List.nil_append, List.drop_succ_cons, List.drop_zero, List.drop_nil]
        have O3 := Own.of hG3
        try simp only [List.setIfInBounds_toArray, List.set_cons_zero, List.set_cons_succ] at O3
        have bw3 : Below w.heap.size w w3 := Below.trans (by go_grown) (Below.mono hb3 (by first | omega | (simp; done) | (simp; omega)))
        have zw3 := Below.size hb3
        try simp only [World.size_alloc, World.size_drew, World.size_setCell] at zw3
        have kk3 := Keep.below (Keep.refl (fun b => b < w1.heap.size ∨ WL0.heap.size ≤ b) V2) hb3
        have hwc3 : Below V2.heap.size V2 w3 := Below.trans (by go_grown) (Below.mono hb3 (by first | omega | (simp; done) | (simp; omega)))
        clear c2x0 f2x0 l2x0 l2x0d0 l2x0d1 c2x1 f2x1 l2x1 l2x1d0 l2x1d1 c2x2 f2x2 l2x2 l2x2d0 l2x2d1 c2x3 f2x3 l2x3 l2x3d0 l2x3d1 c2x4 f2x4 l2x4 l2x4d0 l2x4d1 c2x5 f2x5 l2x5 l2x5d0 l2x5d1 c2x6 f2x6 l2x6 l2x6d0 l2x6d1
        have c3x0 := Own.cell O3 0 rfl
        have f3x0 := Own.free O3 0 rfl
        have l3x0 := Own.lt O3 0 rfl
        have l3x0d0 := le_up 0 l3x0
        have l3x0d1 := le_up 1 l3x0
        simp only [upN] at l3x0d0 l3x0d1
        have c3x1 := Own.cell O3 1 rfl
        have f3x1 := Own.free O3 1 rfl
        have l3x1 := Own.lt O3 1 rfl
        have l3x1d0 := le_up 0 l3x1
        have l3x1d1 := le_up 1 l3x1
        simp only [upN] at l3x1d0 l3x1d1
        have c3x2 := Own.cell O3 2 rfl
        have f3x2 := Own.free O3 2 rfl
        have l3x2 := Own.lt O3 2 rfl
        have l3x2d0 := le_up 0 l3x2
        have l3x2d1 := le_up 1 l3x2
        simp only [upN] at l3x2d0 l3x2d1
        have c3x3 := Own.cell O3 3 rfl
        have f3x3 := Own.free O3 3 rfl
        have l3x3 := Own.lt O3 3 rfl
        have l3x3d0 := le_up 0 l3x3
        have l3x3d1 := le_up 1 l3x3
        simp only [upN] at l3x3d0 l3x3d1
        have c3x4 := Own.cell O3 4 rfl
        have f3x4 := Own.free O3 4 rfl
        have l3x4 := Own.lt O3 4 rfl
        have l3x4d0 := le_up 0 l3x4
        have l3x4d1 := le_up 1 l3x4
        simp only [upN] at l3x4d0 l3x4d1
        have c3x5 := Own.cell O3 5 rfl
        have f3x5 := Own.free O3 5 rfl
        have l3x5 := Own.lt O3 5 rfl
        have l3x5d0 := le_up 0 l3x5
        have l3x5d1 := le_up 1 l3x5
        simp only [upN] at l3x5d0 l3x5d1
        have c3x6 := Own.cell O3 6 rfl
        have f3x6 := Own.free O3 6 rfl
        have l3x6 := Own.lt O3 6 rfl
        have l3x6d0 := le_up 0 l3x6
        have l3x6d1 := le_up 1 l3x6
        simp only [upN] at l3x6d0 l3x6d1
        have HO3 := Lib.hid O3
        clear O3 hb3
        go_wp2_with fail
        gi_wp2
        refine ⟨(Keep.setCell (Keep.setCell (Keep.setCell kk3 _ _ (.inl (by first | (intro h; dsimp only at h; omega) | (intro h; omega)))) _ _ (.inl (by first | (intro h; dsimp only at h; omega) | (intro h; omega)))) _ _ (.inl (by first | (intro h; dsimp only at h; omega) | (intro h; omega)))), ⟨?own0n, ?bel0n, ?dd0n, ?ks0n⟩⟩
        case own0n => dsimp only; rw [hn1, ha1]; refine Own.eqv (Own.set (Own.set (Own.set HO3.out 2 rfl (Ne1.cons (by first | omega | (simp; omega)) (Ne1.cons (by first | omega | (simp; omega)) (Ne1.cons (by first | omega | (simp; omega)) (Ne1.cons (by first | omega | (simp; omega)) (Ne1.cons (by first | omega | (simp; omega)) (Ne1.cons (by first | omega | (simp; omega)) Ne1.nil))))))) 1 rfl (Ne1.cons (by first | omega | (simp; omega)) (Ne1.cons (by first | omega | (simp; omega)) (Ne1.cons (by first | omega | (simp; omega)) (Ne1.cons (by first | omega | (simp; omega)) (Ne1.cons (by first | omega | (simp; omega)) (Ne1.cons (by first | omega | (simp; omega)) Ne1.nil))))))) 0 rfl (Ne1.cons (by first | omega | (simp; omega)) (Ne1.cons (by first | omega | (simp; omega)) (Ne1.cons (by first | omega | (simp; omega)) (Ne1.cons (by first | omega | (simp; omega)) (Ne1.cons (by first | omega | (simp; omega)) (Ne1.cons (by first | omega | (simp; omega)) Ne1.nil))))))) ?_; simp only [List.setIfInBounds_toArray, List.set_cons_zero, List.set_cons_succ]; rfl
        case bel0n => exact (Below.setCell (Below.setCell (Below.setCell (HVB.out.trans (hwc3.mono (by have := HVB.out.size; omega))) (p := ⟨_, 0, none⟩) (by simp; omega) _) (p := ⟨_, 0, none⟩) (by simp; omega) _) (p := ⟨_, 0, none⟩) (by simp; omega) _)
        case ks0n => exact HVK.out.trans (((Keep.setCell (Keep.setCell (Keep.setCell kk3 _ _ (.inl (by first | (intro h; dsimp only at h; omega) | (intro h; omega)))) _ _ (.inl (by first | (intro h; dsimp only at h; omega) | (intro h; omega)))) _ _ (.inl (by first | (intro h; dsimp only at h; omega) | (intro h; omega))))).mono (fun q hq => .inl hq))
        case dd0n => exact fun D h => ((((KeepsOthers.below hwc3).trans (KeepsOthers.setCell _ _ _)).trans (KeepsOthers.setCell _ _ _)).trans (KeepsOthers.setCell _ _ _)).same _ _ (HVD.out D h) rfl
      · have d3 : decide (many ≤ (k : Int) + 1) = true := by simp; omega
        gi_wp2
        refine regInG (by kernel_rfl) (fun ⟨_, _, h⟩ => h) V2.heap.size 19 0 0 [(0, 0, 35184372088832, 512), (1, 0, 70368744177664, 16), (2, 0, 140737488355328, 2048), (3, 6, 281474976710656, 211106232532992), (4, 8, 562949953421312, 281474976710656), (5, 16, 1125899906842624, 562949953421312), (6, 0, 2251799813685248, 16), (7, 0, 4503599627370496, 2048), (8, 192, 9007199254740992, 6755399441055744), (9, 256, 18014398509481984, 9007199254740992), (10, 512, 36028797018963968, 18014398509481984), (11, 1057, 72057594037927936, 37189881297895424), (12, 2048, 17592186044416, 72057594037927936), (13, 4096, 144115188075855872, 17592186044416), (14, 4096, 288230376151711744, 17592186044416), (15, 4096, 576460752303423488, 17592186044416), (16, 16383, 16384, 144115188075855872), (17, 98303, 32768, 288230376151711744), (18, 262143, 65536, 576460752303423488)] [(.p 0, 1), (.p 1, 3), (.p 2, 7), (.p 3, 15), (.p 4, 31), (.q 5, 63), (.p 6, 127), (.p 7, 255), (.p 8, 511), (.p 9, 1023), (.q 10, 2047), (.p 11, 4095), (.p 12, 8191), (.p 13, 16383), (.p 14, 32767), (.p 15, 65535), (.p 16, 131071), (.p 17, 262143), (.p 18, 524287)] [] _ (fun p hp => hp) (by first | omega | (simp; done) | (simp; omega)) (by kernel_rfl) (by kernel_rfl) HO2.out ?_
        refine wpG_pure (i := 0) (v := ?v4x0) rfl rfl (by rfl) (fun w hB hG K hK => ?h4x0) ?_
        case h4x0 =>
          have cx := Own.cell hG 2 rfl
          go_wp2_with fail
          exact hK _ (Below.refl _ _)
        simp only [List.set_cons_zero, List.set_cons_succ]
        refine wpG_pure (i := 1) (v := ?v4x1) rfl rfl (by rfl) (fun w hB hG K hK => ?h4x1) ?_
        case h4x1 =>
          have cx := Own.cell hG 6 rfl
          go_wp2_with fail
          exact hK _ (Below.refl _ _)
        simp only [List.set_cons_zero, List.set_cons_succ]
        refine wpG_pure (i := 2) (v := ?v4x2) rfl rfl (by rfl) (fun w hB hG K hK => ?h4x2) ?_
        case h4x2 =>
          have cx := Own.cell hG 0 rfl
          go_wp2_with fail
          exact hK _ (Below.refl _ _)
        simp only [List.set_cons_zero, List.set_cons_succ]
        refine wpG_pure (i := 3) (v := ?v4x3) rfl rfl (by rfl) (fun w hB hG K hK => ?h4x3) ?_
        case h4x3 =>
          go_wp2_with fail
          exact hK _ (Below.refl _ _)
        simp only [List.set_cons_zero, List.set_cons_succ]
        refine wpG_pure (i := 4) (v := ?v4x4) rfl rfl (by rfl) (fun w hB hG K hK => ?h4x4) ?_
        case h4x4 =>
          go_wp2_with fail
          exact hK _ (Below.refl _ _)
        simp only [List.set_cons_zero, List.set_cons_succ]
        refine wpG_op (i := 5) (v := ?v4x5) rfl rfl (by rfl) (fun w hB hG K hK => ?h4x5) ?_
        case h4x5 =>
          have hx0 := (hB.cell (p := ⟨b', off + k * 8, none⟩) (World.block_lt_of_cell? V2 _ hc0)).trans hc0
          have hx1 := (hB.cell (p := ⟨b', off + k * 8 + 1, none⟩) (World.block_lt_of_cell? V2 _ hc1)).trans hc1
          have hx2 := (hB.cell (p := ⟨b', off + k * 8 + 2, none⟩) (World.block_lt_of_cell? V2 _ hc2)).trans hc2
          have hx3 := (hB.cell (p := ⟨b', off + k * 8 + 3, none⟩) (World.block_lt_of_cell? V2 _ hc3)).trans hc3
          go_wp2_with fail
          exact hK _ (Below.refl _ _)
        simp only [List.set_cons_zero, List.set_cons_succ]
        refine wpG_pure (i := 6) (v := ?v4x6) rfl rfl (by rfl) (fun w hB hG K hK => ?h4x6) ?_
        case h4x6 =>
          have cx := Own.cell hG 6 rfl
          go_wp2_with fail
          exact hK _ (Below.refl _ _)
        simp only [List.set_cons_zero, List.set_cons_succ]
        refine wpG_pure (i := 7) (v := ?v4x7) rfl rfl (by rfl) (fun w hB hG K hK => ?h4x7) ?_
        case h4x7 =>
          have cx := Own.cell hG 0 rfl
          go_wp2_with fail
          exact hK _ (Below.refl _ _)
        simp only [List.set_cons_zero, List.set_cons_succ]
        refine wpG_pure (i := 8) (v := ?v4x8) rfl rfl (by rfl) (fun w hB hG K hK => ?h4x8) ?_
        case h4x8 =>
          go_wp2_with fail
          exact hK _ (Below.refl _ _)
        simp only [List.set_cons_zero, List.set_cons_succ]
        refine wpG_pure (i := 9) (v := ?v4x9) rfl rfl (by rfl) (fun w hB hG K hK => ?h4x9) ?_
        case h4x9 =>
          go_wp2_with fail
          exact hK _ (Below.refl _ _)
        simp only [List.set_cons_zero, List.set_cons_succ]
        refine wpG_op (i := 10) (v := ?v4x10) rfl rfl (by rfl) (fun w hB hG K hK => ?h4x10) ?_
        case h4x10 =>
          have hx4 := (hB.cell (p := ⟨b', off + k * 8 + 4, none⟩) (World.block_lt_of_cell? V2 _ hc4)).trans hc4
          have hx5 := (hB.cell (p := ⟨b', off + k * 8 + 5, none⟩) (World.block_lt_of_cell? V2 _ hc5)).trans hc5
          have hx6 := (hB.cell (p := ⟨b', off + k * 8 + 6, none⟩) (World.block_lt_of_cell? V2 _ hc6)).trans hc6
          have hx7 := (hB.cell (p := ⟨b', off + k * 8 + 7, none⟩) (World.block_lt_of_cell? V2 _ hc7)).trans hc7
          have hx4' := hx4
          have hx5' := hx5
          have hx6' := hx6
          have hx7' := hx7
          go_wp2_with fail
          exact hK _ (Below.refl _ _)
        simp only [List.set_cons_zero, List.set_cons_succ]
        refine wpG_pure (i := 11) (v := ?v4x11) rfl rfl (by rfl) (fun w hB hG K hK => ?h4x11) ?_
        case h4x11 =>
          go_wp2_with fail
          refine (HRX.out _).mono ?_
          rintro e wx ⟨rfl, hbx⟩
          exact hK _ hbx
        simp only [List.set_cons_zero, List.set_cons_succ]
        refine wpG_move (i := 12) rfl rfl rfl (by rfl) rfl ?_
        simp only [List.set_cons_zero, List.set_cons_succ]
        refine wpG_pure (i := 13) (v := ?v4x13) rfl rfl (by rfl) (fun w hB hG K hK => ?h4x13) ?_
        case h4x13 =>
          go_wp2_with fail
          exact hK _ (Below.refl _ _)
        simp only [List.set_cons_zero, List.set_cons_succ]
        refine wpG_pure (i := 14) (v := ?v4x14) rfl rfl (by rfl) (fun w hB hG K hK => ?h4x14) ?_
        case h4x14 =>
          go_wp2_with fail
          exact hK _ (Below.refl _ _)
        simp only [List.set_cons_zero, List.set_cons_succ]
        refine wpG_pure (i := 15) (v := ?v4x15) rfl rfl (by rfl) (fun w hB hG K hK => ?h4x15) ?_
        case h4x15 =>
          go_wp2_with fail
          exact hK _ (Below.refl _ _)
        simp only [List.set_cons_zero, List.set_cons_succ]
        refine wpG_assign (i := 16) rfl rfl rfl (by rfl) rfl ?_
        simp only [List.set_cons_zero, List.set_cons_succ]
        refine wpG_assign (i := 17) rfl rfl rfl (by rfl) rfl ?_
        simp only [List.set_cons_zero, List.set_cons_succ]
        refine wpG_assign (i := 18) rfl rfl rfl (by rfl) rfl ?_
        simp only [List.set_cons_zero, List.set_cons_succ]
        refine wpG_nil (fun w4 hb4 hG4 => ?_)
        simp only [List.append_eq, List.cons_append, List.nil_append, List.drop_succ_cons, List.drop_zero, List.drop_nil]
        have O4 := Own.of hG4
        try simp only [List.setIfInBounds_toArray, List.set_cons_zero, List.set_cons_succ] at O4
        have bw4 : Below w.heap.size w w4 := Below.trans (by go_grown) (Below.mono hb4 (by first | omega | (simp; done) | (simp; omega)))
        have zw4 := Below.size hb4
        try simp only [World.size_alloc, World.size_drew, World.size_setCell] at zw4
        have kk4 := Keep.below (Keep.refl (fun b => b < w1.heap.size ∨ WL0.heap.size ≤ b) V2) hb4
        have hwc4 : Below V2.heap.size V2 w4 := Below.trans (by go_grown) (Below.mono hb4 (by first | omega | (simp; done) | (simp; omega)))
        clear c2x0 f2x0 l2x0 l2x0d0 l2x0d1 c2x1 f2x1 l2x1 l2x1d0 l2x1d1 c2x2 f2x2 l2x2 l2x2d0 l2x2d1 c2x3 f2x3 l2x3 l2x3d0 l2x3d1 c2x4 f2x4 l2x4 l2x4d0 l2x4d1 c2x5 f2x5 l2x5 l2x5d0 l2x5d1 c2x6 f2x6 l2x6 l2x6d0 l2x6d1
        have c4x0 := Own.cell O4 0 rfl
        have f4x0 := Own.free O4 0 rfl
        have l4x0 := Own.lt O4 0 rfl
        have l4x0d0 := le_up 0 l4x0
        have l4x0d1 := le_up 1 l4x0
        simp only [upN] at l4x0d0 l4x0d1
        have c4x1 := Own.cell O4 1 rfl
        have f4x1 := Own.free O4 1 rfl
        have l4x1 := Own.lt O4 1 rfl
        have l4x1d0 := le_up 0 l4x1
        have l4x1d1 := le_up 1 l4x1
        simp only [upN] at l4x1d0 l4x1d1
        have c4x2 := Own.cell O4 2 rfl
        have f4x2 := Own.free O4 2 rfl
        have l4x2 := Own.lt O4 2 rfl
        have l4x2d0 := le_up 0 l4x2
        have l4x2d1 := le_up 1 l4x2
        simp only [upN] at l4x2d0 l4x2d1
        have c4x3 := Own.cell O4 3 rfl
        have f4x3 := Own.free O4 3 rfl
        have l4x3 := Own.lt O4 3 rfl
        have l4x3d0 := le_up 0 l4x3
        have l4x3d1 := le_up 1 l4x3
        simp only [upN] at l4x3d0 l4x3d1
        have c4x4 := Own.cell O4 4 rfl
        have f4x4 := Own.free O4 4 rfl
        have l4x4 := Own.lt O4 4 rfl
        have l4x4d0 := le_up 0 l4x4
        have l4x4d1 := le_up 1 l4x4
        simp only [upN] at l4x4d0 l4x4d1
        have c4x5 := Own.cell O4 5 rfl
        have f4x5 := Own.free O4 5 rfl
        have l4x5 := Own.lt O4 5 rfl
        have l4x5d0 := le_up 0 l4x5
        have l4x5d1 := le_up 1 l4x5
        simp only [upN] at l4x5d0 l4x5d1
        have c4x6 := Own.cell O4 6 rfl
        have f4x6 := Own.free O4 6 rfl
        have l4x6 := Own.lt O4 6 rfl
        have l4x6d0 := le_up 0 l4x6
        have l4x6d1 := le_up 1 l4x6
        simp only [upN] at l4x6d0 l4x6d1
        have HO4 := Lib.hid O4
        clear O4 hb4
        go_wp2_with fail
        gi_wp2
        refine ⟨((Keep.setCell (Keep.setCell (Keep.setCell kk4 _ _ (.inl (by first | (intro h; dsimp only at h; omega) | (intro h; omega)))) _ _ (.inl (by first | (intro h; dsimp only at h; omega) | (intro h; omega)))) _ _ (.inl (by first | (intro h; dsimp only at h; omega) | (intro h; omega))))).mono (fun q hq => .inr hq), rfl, ⟨?own0e, ?bel0e, ?dd0e, ?ks0e⟩⟩
        case own0e => dsimp only; rw [hn1, ha1]; refine Own.eqv (Own.set (Own.set (Own.set HO4.out 2 rfl (Ne1.cons (by first | omega | (simp; omega)) (Ne1.cons (by first | omega | (simp; omega)) (Ne1.cons (by first | omega | (simp; omega)) (Ne1.cons (by first | omega | (simp; omega)) (Ne1.cons (by first | omega | (simp; omega)) (Ne1.cons (by first | omega | (simp; omega)) Ne1.nil))))))) 1 rfl (Ne1.cons (by first | omega | (simp; omega)) (Ne1.cons (by first | omega | (simp; omega)) (Ne1.cons (by first | omega | (simp; omega)) (Ne1.cons (by first | omega | (simp; omega)) (Ne1.cons (by first | omega | (simp; omega)) (Ne1.cons (by first | omega | (simp; omega)) Ne1.nil))))))) 0 rfl (Ne1.cons (by first | omega | (simp; omega)) (Ne1.cons (by first | omega | (simp; omega)) (Ne1.cons (by first | omega | (simp; omega)) (Ne1.cons (by first | omega | (simp; omega)) (Ne1.cons (by first | omega | (simp; omega)) (Ne1.cons (by first | omega | (simp; omega)) Ne1.nil))))))) ?_; simp only [List.setIfInBounds_toArray, List.set_cons_zero, List.set_cons_succ]; rfl
        case bel0e => exact (Below.setCell (Below.setCell (Below.setCell (HVB.out.trans (hwc4.mono (by have := HVB.out.size; omega))) (p := ⟨_, 0, none⟩) (by simp; omega) _) (p := ⟨_, 0, none⟩) (by simp; omega) _) (p := ⟨_, 0, none⟩) (by simp; omega) _)
        case ks0e => exact HVK.out.trans (((Keep.setCell (Keep.setCell (Keep.setCell kk4 _ _ (.inl (by first | (intro h; dsimp only at h; omega) | (intro h; omega)))) _ _ (.inl (by first | (intro h; dsimp only at h; omega) | (intro h; omega)))) _ _ (.inl (by first | (intro h; dsimp only at h; omega) | (intro h; omega))))).mono (fun q hq => .inl hq))
        case dd0e => exact fun D h => ((((KeepsOthers.below hwc4).trans (KeepsOthers.setCell _ _ _)).trans (KeepsOthers.setCell _ _ _)).trans (KeepsOthers.setCell _ _ _)).same _ _ (HVD.out D h) rfl
  case hend0 =>
    intro k0 V0 hend hD0
    obtain ⟨hk, hO, hb0, _, hkV0⟩ : k0 ≤ m ∧ EI (fun (k : Nat) => [(w1.heap.size + 1 + 1 + 1, #[.int .i64 (k : Nat)], 3), (w1.heap.size + 1 + 1, #[.int .u64 (aK n xs k)], 25), (w1.heap.size + 1, #[.int .i64 (nK n xs k)], 3), (w1.heap.size, #[.int .i64 0], 3), (w.heap.size + 1 + 1, #[.bool false], 4), (w.heap.size + 1, #[.int .i64 many], 3), (w.heap.size, #[.slice A ln cap], 49)]) w.heap.size w [] (fun k => k < w1.heap.size) w1 k0 V0 := by
      rw [zsK_len] at hend
      rcases hend with ⟨h1, h3⟩ | ⟨h1, h3⟩
      · exact ⟨by omega, h3⟩
      · exact ⟨by omega, h3⟩
    clear hend
    have O5 := hO
    have c5x0 := Own.cell O5 0 rfl
    have f5x0 := Own.free O5 0 rfl
    have l5x0 := Own.lt O5 0 rfl
    have l5x0d0 := le_up 0 l5x0
    have l5x0d1 := le_up 1 l5x0
    simp only [upN] at l5x0d0 l5x0d1
    have c5x1 := Own.cell O5 1 rfl
    have f5x1 := Own.free O5 1 rfl
    have l5x1 := Own.lt O5 1 rfl
    have l5x1d0 := le_up 0 l5x1
    have l5x1d1 := le_up 1 l5x1
    simp only [upN] at l5x1d0 l5x1d1
    have c5x2 := Own.cell O5 2 rfl
    have f5x2 := Own.free O5 2 rfl
    have l5x2 := Own.lt O5 2 rfl
    have l5x2d0 := le_up 0 l5x2
    have l5x2d1 := le_up 1 l5x2
    simp only [upN] at l5x2d0 l5x2d1
    have c5x3 := Own.cell O5 3 rfl
    have f5x3 := Own.free O5 3 rfl
    have l5x3 := Own.lt O5 3 rfl
    have l5x3d0 := le_up 0 l5x3
    have l5x3d1 := le_up 1 l5x3
    simp only [upN] at l5x3d0 l5x3d1
    have c5x4 := Own.cell O5 4 rfl
    have f5x4 := Own.free O5 4 rfl
    have l5x4 := Own.lt O5 4 rfl
    have l5x4d0 := le_up 0 l5x4
    have l5x4d1 := le_up 1 l5x4
    simp only [upN] at l5x4d0 l5x4d1
    have c5x5 := Own.cell O5 5 rfl
    have f5x5 := Own.free O5 5 rfl
    have l5x5 := Own.lt O5 5 rfl
    have l5x5d0 := le_up 0 l5x5
    have l5x5d1 := le_up 1 l5x5
    simp only [upN] at l5x5d0 l5x5d1
    have c5x6 := Own.cell O5 6 rfl
    have f5x6 := Own.free O5 6 rfl
    have l5x6 := Own.lt O5 6 rfl
    have l5x6d0 := le_up 0 l5x6
    have l5x6d1 := le_up 1 l5x6
    simp only [upN] at l5x6d0 l5x6d1
    have HO5 := Lib.hid O5
    clear O5
    have hbV0 := hb0
    clear hb0
    have zV0 : WL0.heap.size < V0.heap.size := (Array.getElem?_eq_some_iff.1 hD0).1
    go_wp2_with fail
    rw [rounds_succ]
    go_wp2_with fail
    refine wp_name fun WL1 hWL1 => ?_
    have zWL1 : WL1.heap.size = V0.heap.size + 4 := by rw [hWL1]; simp
    have hbWL1 : Below w.heap.size w WL1 := by rw [hWL1]; go_grown
    have hkS1 : Keep (fun k => k < w1.heap.size) w1 WL1 := by rw [hWL1]; exact (Keep.alloc (Keep.alloc (Keep.alloc (Keep.alloc hkV0 _) _) _) _)
    have hoL1 := Lib.hid (show Own _ WL1 by rw [hWL1]; exact (Own.new (Own.new (Own.new (Own.new HO5.out (V0.heap.size) rfl) (V0.heap.size + 1) (by simp)) (V0.heap.size + 1 + 1) (by simp)) (V0.heap.size + 1 + 1 + 1) (by simp)))
    have hD0L : WL1.heap[WL0.heap.size]? = some (.deferred (some [])) := by rw [hWL1]; exact (((((KeepsOthers.refl _).trans (KeepsOthers.alloc _ _)).trans (KeepsOthers.alloc _ _)).trans (KeepsOthers.alloc _ _)).trans (KeepsOthers.alloc _ _)).same _ _ hD0 rfl
    clear hWL1
    have hI1 : AnyFrom WL1.heap.size (EI (fun (k : Nat) => [(V0.heap.size + 1 + 1 + 1, #[.int .i64 (k : Nat)], 3), (V0.heap.size + 1 + 1, #[.int .u64 (aK n xs k)], 25), (V0.heap.size + 1, #[.int .i64 (nK n xs k)], 3), (V0.heap.size, #[.int .i64 1], 3), (w1.heap.size + 1 + 1 + 1, #[.int .i64 (k0 : Nat)], 3), (w1.heap.size + 1 + 1, #[.int .u64 (aK n xs k0)], 25), (w1.heap.size + 1, #[.int .i64 (nK n xs k0)], 3), (w1.heap.size, #[.int .i64 0], 3), (w.heap.size + 1 + 1, #[.bool false], 4), (w.heap.size + 1, #[.int .i64 many], 3), (w.heap.size, #[.slice A ln cap], 49)]) w.heap.size w [WL0.heap.size] (fun k => k < w1.heap.size) w1) := EI.any (by simp only [List.mem_cons, List.not_mem_nil, or_false, forall_eq, forall_eq_or_imp]; first | omega | exact fun _ h => h.elim | simp) (by simp only [List.mem_cons, List.not_mem_nil, or_false, forall_eq, forall_eq_or_imp]; first | omega | exact fun _ h => h.elim | simp) (Nat.le_refl _) (by have := hbWL1.size; omega) (fun k hk => by first | omega | (dsimp only at hk; omega))
    refine wp_each_block (w0 := w1) (S := (fun k => k < w1.heap.size)) (xs := zsK n xs m) (encs := encZ) rfl (enters_of Try.func33 (by kernel_rfl) rfl) HSEQ.out (fun k hk => by first | omega | (dsimp only at hk; omega)) hkS1 (fun _ _ => rfl) (fun k V => EI (fun (k : Nat) => [(V0.heap.size + 1 + 1 + 1, #[.int .i64 (k : Nat)], 3), (V0.heap.size + 1 + 1, #[.int .u64 (aK n xs k)], 25), (V0.heap.size + 1, #[.int .i64 (nK n xs k)], 3), (V0.heap.size, #[.int .i64 1], 3), (w1.heap.size + 1 + 1 + 1, #[.int .i64 (k0 : Nat)], 3), (w1.heap.size + 1 + 1, #[.int .u64 (aK n xs k0)], 25), (w1.heap.size + 1, #[.int .i64 (nK n xs k0)], 3), (w1.heap.size, #[.int .i64 0], 3), (w.heap.size + 1 + 1, #[.bool false], 4), (w.heap.size + 1, #[.int .i64 many], 3), (w.heap.size, #[.slice A ln cap], 49)]) w.heap.size w [WL0.heap.size] (fun k => k < w1.heap.size) w1 k V) (fun k V => False) ?hI1 ?hIx1 ?h01 ?round1 ?hend1
    case hI1 => exact hI1
    case hIx1 => exact fun k V V2 row h hg hr => h
    case h01 => exact ⟨hoL1.out, hbWL1, fun D h => (by simp only [List.mem_cons, List.not_mem_nil, or_false] at h; subst h; exact hD0L), hkS1⟩
    case round1 =>
      rintro l' k x V hx hE hl'
      gi_wp2
      refine ⟨Keep.refl _ _, EI (fun (k : Nat) => [(V0.heap.size + 1 + 1 + 1, #[.int .i64 (k : Nat)], 3), (V0.heap.size + 1 + 1, #[.int .u64 (aK n xs k)], 25), (V0.heap.size + 1, #[.int .i64 (nK n xs k)], 3), (V0.heap.size, #[.int .i64 1], 3), (w1.heap.size + 1 + 1 + 1, #[.int .i64 (k0 : Nat)], 3), (w1.heap.size + 1 + 1, #[.int .u64 (aK n xs k0)], 25), (w1.heap.size + 1, #[.int .i64 (nK n xs k0)], 3), (w1.heap.size, #[.int .i64 0], 3), (w.heap.size + 1 + 1, #[.bool false], 4), (w.heap.size + 1, #[.int .i64 many], 3), (w.heap.size, #[.slice A ln cap], 49)]) w.heap.size w [WL0.heap.size] (fun k => k < w1.heap.size) w1 k, fun _ V V2 row h hg hr => hI1.from k V V2 row h hg hr, hE, ?body1⟩
      case body1 =>
        rintro V2 ⟨hO2, hb2, hD2, hK2⟩
        dsimp only at hO2
        have hkm : k < m := by have := (List.getElem?_eq_some_iff.1 hx).1; rw [zsK_len] at this; exact this
        obtain rfl : x = (nK n xs (k + 1), aK n xs (k + 1)) := by rw [zsK_at hkm] at hx; cases hx; rfl
        clear hx
        obtain ⟨y, hy⟩ : ∃ y, xs[k]? = some y := ⟨xs[k]'(by rw [hln]; omega), by simp⟩
        obtain ⟨b', off, rfl, hbl, hcell⟩ := (HX.out V2 hb2).cell (pairsC_at (j := 0) hy (by rfl))
        have hc0 : V2.cell? ⟨b', off + k * 8, none⟩ = some (.int .u64 (L y.1 0)) := by have := hcell (k * 8) _ (pairsC_at (j := 0) hy (by rfl)); simpa [Nat.add_assoc] using this
        have hc1 : V2.cell? ⟨b', off + k * 8 + 1, none⟩ = some (.int .u64 (L y.1 1)) := by have := hcell (k * 8 + 1) _ (pairsC_at (j := 1) hy (by rfl)); simpa [Nat.add_assoc] using this
        have hc2 : V2.cell? ⟨b', off + k * 8 + 2, none⟩ = some (.int .u64 (L y.1 2)) := by have := hcell (k * 8 + 2) _ (pairsC_at (j := 2) hy (by rfl)); simpa [Nat.add_assoc] using this
        have hc3 : V2.cell? ⟨b', off + k * 8 + 3, none⟩ = some (.int .u64 (L y.1 3)) := by have := hcell (k * 8 + 3) _ (pairsC_at (j := 3) hy (by rfl)); simpa [Nat.add_assoc] using this
        have hc4 : V2.cell? ⟨b', off + k * 8 + 4, none⟩ = some (.int .u64 (L y.2 0)) := by have := hcell (k * 8 + 4) _ (pairsC_at (j := 4) hy (by rfl)); simpa [Nat.add_assoc] using this
        have hc5 : V2.cell? ⟨b', off + k * 8 + 5, none⟩ = some (.int .u64 (L y.2 1)) := by have := hcell (k * 8 + 5) _ (pairsC_at (j := 5) hy (by rfl)); simpa [Nat.add_assoc] using this
        have hc6 : V2.cell? ⟨b', off + k * 8 + 6, none⟩ = some (.int .u64 (L y.2 2)) := by have := hcell (k * 8 + 6) _ (pairsC_at (j := 6) hy (by rfl)); simpa [Nat.add_assoc] using this
        have hc7 : V2.cell? ⟨b', off + k * 8 + 7, none⟩ = some (.int .u64 (L y.2 3)) := by have := hcell (k * 8 + 7) _ (pairsC_at (j := 7) hy (by rfl)); simpa [Nat.add_assoc] using this
        clear hcell
        have hkb : k < 100 := by omega
        have d2 : decide ((ln : Int) ≤ k) = false := by simp; omega
        have d2' : decide (ln ≤ k) = false := by simp; omega
        have hRX := fun V => refReach_yes hy (HM.out.2.1 k hkm) V
        have habd := aK_bd n xs k
        have hcbd := reachC_bd (nK n xs k) (atW xs k).1 (atW xs k).2
        have hwr : IntKind.u64.wrap (aK n xs k + reachC (nK n xs k) (atW xs k).1 (atW xs k).2) = aK n xs (k + 1) := by rw [IntWalk.u64_in _ (by omega)]; rfl
        generalize hcK : reachC (nK n xs k) (atW xs k).1 (atW xs k).2 = cK at *
        generalize hn1 : nK n xs (k + 1) = n1 at *
        generalize ha1 : aK n xs (k + 1) = a1 at *
        generalize nK n xs k = nk at *
        generalize aK n xs k = ak at *
        have HRX := Lib.hid hRX
        clear hRX
        have HVB := Lib.hid hb2
        have HVD := Lib.hid hD2
        have HVK := Lib.hid hK2
        clear hD2 hK2 hE habd hcbd hcK
        have O6 := hO2
        have c6x0 := Own.cell O6 0 rfl
        have f6x0 := Own.free O6 0 rfl
        have l6x0 := Own.lt O6 0 rfl
        have l6x0d0 := le_up 0 l6x0
        have l6x0d1 := le_up 1 l6x0
        simp only [upN] at l6x0d0 l6x0d1
        have c6x1 := Own.cell O6 1 rfl
        have f6x1 := Own.free O6 1 rfl
        have l6x1 := Own.lt O6 1 rfl
        have l6x1d0 := le_up 0 l6x1
        have l6x1d1 := le_up 1 l6x1
        simp only [upN] at l6x1d0 l6x1d1
        have c6x2 := Own.cell O6 2 rfl
        have f6x2 := Own.free O6 2 rfl
        have l6x2 := Own.lt O6 2 rfl
        have l6x2d0 := le_up 0 l6x2
        have l6x2d1 := le_up 1 l6x2
        simp only [upN] at l6x2d0 l6x2d1
        have c6x3 := Own.cell O6 3 rfl
        have f6x3 := Own.free O6 3 rfl
        have l6x3 := Own.lt O6 3 rfl
        have l6x3d0 := le_up 0 l6x3
        have l6x3d1 := le_up 1 l6x3
        simp only [upN] at l6x3d0 l6x3d1
        have c6x4 := Own.cell O6 4 rfl
        have f6x4 := Own.free O6 4 rfl
        have l6x4 := Own.lt O6 4 rfl
        have l6x4d0 := le_up 0 l6x4
        have l6x4d1 := le_up 1 l6x4
        simp only [upN] at l6x4d0 l6x4d1
        have c6x5 := Own.cell O6 5 rfl
        have f6x5 := Own.free O6 5 rfl
        have l6x5 := Own.lt O6 5 rfl
        have l6x5d0 := le_up 0 l6x5
        have l6x5d1 := le_up 1 l6x5
        simp only [upN] at l6x5d0 l6x5d1
        have c6x6 := Own.cell O6 6 rfl
        have f6x6 := Own.free O6 6 rfl
        have l6x6 := Own.lt O6 6 rfl
        have l6x6d0 := le_up 0 l6x6
        have l6x6d1 := le_up 1 l6x6
        simp only [upN] at l6x6d0 l6x6d1
        have c6x7 := Own.cell O6 7 rfl
        have f6x7 := Own.free O6 7 rfl
        have l6x7 := Own.lt O6 7 rfl
        have l6x7d0 := le_up 0 l6x7
        have l6x7d1 := le_up 1 l6x7
        simp only [upN] at l6x7d0 l6x7d1
        have c6x8 := Own.cell O6 8 rfl
        have f6x8 := Own.free O6 8 rfl
        have l6x8 := Own.lt O6 8 rfl
        have l6x8d0 := le_up 0 l6x8
        have l6x8d1 := le_up 1 l6x8
        simp only [upN] at l6x8d0 l6x8d1
        have c6x9 := Own.cell O6 9 rfl
        have f6x9 := Own.free O6 9 rfl
        have l6x9 := Own.lt O6 9 rfl
        have l6x9d0 := le_up 0 l6x9
        have l6x9d1 := le_up 1 l6x9
        simp only [upN] at l6x9d0 l6x9d1
        have c6x10 := Own.cell O6 10 rfl
        have f6x10 := Own.free O6 10 rfl
        have l6x10 := Own.lt O6 10 rfl
        have l6x10d0 := le_up 0 l6x10
        have l6x10d1 := le_up 1 l6x10
        simp only [upN] at l6x10d0 l6x10d1
        have HO6 := Lib.hid O6
        clear O6
        gi_wp2
        refine regInG (by kernel_rfl) (fun ⟨_, _, h⟩ => h) V2.heap.size 19 0 0 [(0, 0, 35184372088832, 512), (1, 0, 70368744177664, 16), (2, 0, 140737488355328, 2048), (3, 6, 281474976710656, 211106232532992), (4, 8, 562949953421312, 281474976710656), (5, 16, 1125899906842624, 562949953421312), (6, 0, 2251799813685248, 16), (7, 0, 4503599627370496, 2048), (8, 192, 9007199254740992, 6755399441055744), (9, 256, 18014398509481984, 9007199254740992), (10, 512, 36028797018963968, 18014398509481984), (11, 1057, 72057594037927936, 37189881297895424), (12, 2048, 17592186044416, 72057594037927936), (13, 4096, 144115188075855872, 17592186044416), (14, 4096, 288230376151711744, 17592186044416), (15, 4096, 576460752303423488, 17592186044416), (16, 16383, 16384, 144115188075855872), (17, 98303, 32768, 288230376151711744), (18, 262143, 65536, 576460752303423488)] [(.p 0, 1), (.p 1, 3), (.p 2, 7), (.p 3, 15), (.p 4, 31), (.q 5, 63), (.p 6, 127), (.p 7, 255), (.p 8, 511), (.p 9, 1023), (.q 10, 2047), (.p 11, 4095), (.p 12, 8191), (.p 13, 16383), (.p 14, 32767), (.p 15, 65535), (.p 16, 131071), (.p 17, 262143), (.p 18, 524287)] [] _ (fun p hp => hp) (by first | omega | (simp; done) | (simp; omega)) (by kernel_rfl) (by kernel_rfl) HO6.out ?_
        refine wpG_pure (i := 0) (v := ?v7x0) rfl rfl (by rfl) (fun w hB hG K hK => ?h7x0) ?_
        case h7x0 =>
          have cx := Own.cell hG 2 rfl
          go_wp2_with fail
          exact hK _ (Below.refl _ _)
        simp only [List.set_cons_zero, List.set_cons_succ]
        refine wpG_pure (i := 1) (v := ?v7x1) rfl rfl (by rfl) (fun w hB hG K hK => ?h7x1) ?_
        case h7x1 =>
          have cx := Own.cell hG 10 rfl
          go_wp2_with fail
          exact hK _ (Below.refl _ _)
        simp only [List.set_cons_zero, List.set_cons_succ]
        refine wpG_pure (i := 2) (v := ?v7x2) rfl rfl (by rfl) (fun w hB hG K hK => ?h7x2) ?_
        case h7x2 =>
          have cx := Own.cell hG 0 rfl
          go_wp2_with fail
          exact hK _ (Below.refl _ _)
        simp only [List.set_cons_zero, List.set_cons_succ]
        refine wpG_pure (i := 3) (v := ?v7x3) rfl rfl (by rfl) (fun w hB hG K hK => ?h7x3) ?_
        case h7x3 =>
          go_wp2_with fail
          exact hK _ (Below.refl _ _)
        simp only [List.set_cons_zero, List.set_cons_succ]
        refine wpG_pure (i := 4) (v := ?v7x4) rfl rfl (by rfl) (fun w hB hG K hK => ?h7x4) ?_
        case h7x4 =>
          go_wp2_with fail
          exact hK _ (Below.refl _ _)
        simp only [List.set_cons_zero, List.set_cons_succ]
        refine wpG_op (i := 5) (v := ?v7x5) rfl rfl (by rfl) (fun w hB hG K hK => ?h7x5) ?_
        case h7x5 =>
          have hx0 := (hB.cell (p := ⟨b', off + k * 8, none⟩) (World.block_lt_of_cell? V2 _ hc0)).trans hc0
          have hx1 := (hB.cell (p := ⟨b', off + k * 8 + 1, none⟩) (World.block_lt_of_cell? V2 _ hc1)).trans hc1
          have hx2 := (hB.cell (p := ⟨b', off + k * 8 + 2, none⟩) (World.block_lt_of_cell? V2 _ hc2)).trans hc2
          have hx3 := (hB.cell (p := ⟨b', off + k * 8 + 3, none⟩) (World.block_lt_of_cell? V2 _ hc3)).trans hc3
          go_wp2_with fail
          exact hK _ (Below.refl _ _)
        simp only [List.set_cons_zero, List.set_cons_succ]
        refine wpG_pure (i := 6) (v := ?v7x6) rfl rfl (by rfl) (fun w hB hG K hK => ?h7x6) ?_
        case h7x6 =>
          have cx := Own.cell hG 10 rfl
          go_wp2_with fail
          exact hK _ (Below.refl _ _)
        simp only [List.set_cons_zero, List.set_cons_succ]
        refine wpG_pure (i := 7) (v := ?v7x7) rfl rfl (by rfl) (fun w hB hG K hK => ?h7x7) ?_
        case h7x7 =>
          have cx := Own.cell hG 0 rfl
          go_wp2_with fail
          exact hK _ (Below.refl _ _)
        simp only [List.set_cons_zero, List.set_cons_succ]
        refine wpG_pure (i := 8) (v := ?v7x8) rfl rfl (by rfl) (fun w hB hG K hK => ?h7x8) ?_
        case h7x8 =>
          go_wp2_with fail
          exact hK _ (Below.refl _ _)
        simp only [List.set_cons_zero, List.set_cons_succ]
        refine wpG_pure (i := 9) (v := ?v7x9) rfl rfl (by rfl) (fun w hB hG K hK => ?h7x9) ?_
        case h7x9 =>
          go_wp2_with fail
          exact hK _ (Below.refl _ _)
        simp only [List.set_cons_zero, List.set_cons_succ]
        refine wpG_op (i := 10) (v := ?v7x10) rfl rfl (by rfl) (fun w hB hG K hK => ?h7x10) ?_
        case h7x10 =>
          have hx4 := (hB.cell (p := ⟨b', off + k * 8 + 4, none⟩) (World.block_lt_of_cell? V2 _ hc4)).trans hc4
          have hx5 := (hB.cell (p := ⟨b', off + k * 8 + 5, none⟩) (World.block_lt_of_cell? V2 _ hc5)).trans hc5
          have hx6 := (hB.cell (p := ⟨b', off + k * 8 + 6, none⟩) (World.block_lt_of_cell? V2 _ hc6)).trans hc6
          have hx7 := (hB.cell (p := ⟨b', off + k * 8 + 7, none⟩) (World.block_lt_of_cell? V2 _ hc7)).trans hc7
          have hx4' := hx4
          have hx5' := hx5
          have hx6' := hx6
          have hx7' := hx7
          go_wp2_with fail
          exact hK _ (Below.refl _ _)
        simp only [List.set_cons_zero, List.set_cons_succ]
        refine wpG_pure (i := 11) (v := ?v7x11) rfl rfl (by rfl) (fun w hB hG K hK => ?h7x11) ?_
        case h7x11 =>
          go_wp2_with fail
          refine (HRX.out _).mono ?_
          rintro e wx ⟨rfl, hbx⟩
          exact hK _ hbx
        simp only [List.set_cons_zero, List.set_cons_succ]
        refine wpG_move (i := 12) rfl rfl rfl (by rfl) rfl ?_
        simp only [List.set_cons_zero, List.set_cons_succ]
        refine wpG_pure (i := 13) (v := ?v7x13) rfl rfl (by rfl) (fun w hB hG K hK => ?h7x13) ?_
        case h7x13 =>
          go_wp2_with fail
          exact hK _ (Below.refl _ _)
        simp only [List.set_cons_zero, List.set_cons_succ]
        refine wpG_pure (i := 14) (v := ?v7x14) rfl rfl (by rfl) (fun w hB hG K hK => ?h7x14) ?_
        case h7x14 =>
          go_wp2_with fail
          exact hK _ (Below.refl _ _)
        simp only [List.set_cons_zero, List.set_cons_succ]
        refine wpG_pure (i := 15) (v := ?v7x15) rfl rfl (by rfl) (fun w hB hG K hK => ?h7x15) ?_
        case h7x15 =>
          go_wp2_with fail
          exact hK _ (Below.refl _ _)
        simp only [List.set_cons_zero, List.set_cons_succ]
        refine wpG_assign (i := 16) rfl rfl rfl (by rfl) rfl ?_
        simp only [List.set_cons_zero, List.set_cons_succ]
        refine wpG_assign (i := 17) rfl rfl rfl (by rfl) rfl ?_
        simp only [List.set_cons_zero, List.set_cons_succ]
        refine wpG_assign (i := 18) rfl rfl rfl (by rfl) rfl ?_
        simp only [List.set_cons_zero, List.set_cons_succ]
        refine wpG_nil (fun w7 hb7 hG7 => ?_)
        simp only [List.append_eq, List.cons_append, List.nil_append, List.drop_succ_cons, List.drop_zero, List.drop_nil]
        have O7 := Own.of hG7
        try simp only [List.setIfInBounds_toArray, List.set_cons_zero, List.set_cons_succ] at O7
        have bw7 : Below w.heap.size w w7 := Below.trans (by go_grown) (Below.mono hb7 (by first | omega | (simp; done) | (simp; omega)))
        have zw7 := Below.size hb7
        try simp only [World.size_alloc, World.size_drew, World.size_setCell] at zw7
        have kk7 := Keep.below (Keep.refl (fun b => b < w1.heap.size ∨ WL1.heap.size ≤ b) V2) hb7
        have hwc7 : Below V2.heap.size V2 w7 := Below.trans (by go_grown) (Below.mono hb7 (by first | omega | (simp; done) | (simp; omega)))
        clear c6x0 f6x0 l6x0 l6x0d0 l6x0d1 c6x1 f6x1 l6x1 l6x1d0 l6x1d1 c6x2 f6x2 l6x2 l6x2d0 l6x2d1 c6x3 f6x3 l6x3 l6x3d0 l6x3d1 c6x4 f6x4 l6x4 l6x4d0 l6x4d1 c6x5 f6x5 l6x5 l6x5d0 l6x5d1 c6x6 f6x6 l6x6 l6x6d0 l6x6d1 c6x7 f6x7 l6x7 l6x7d0 l6x7d1 c6x8 f6x8 l6x8 l6x8d0 l6x8d1 c6x9 f6x9 l6x9 l6x9d0 l6x9d1 c6x10 f6x10 l6x10 l6x10d0 l6x10d1
        have c7x0 := Own.cell O7 0 rfl
        have f7x0 := Own.free O7 0 rfl
        have l7x0 := Own.lt O7 0 rfl
        have l7x0d0 := le_up 0 l7x0
        have l7x0d1 := le_up 1 l7x0
        simp only [upN] at l7x0d0 l7x0d1
        have c7x1 := Own.cell O7 1 rfl
        have f7x1 := Own.free O7 1 rfl
        have l7x1 := Own.lt O7 1 rfl
        have l7x1d0 := le_up 0 l7x1
        have l7x1d1 := le_up 1 l7x1
        simp only [upN] at l7x1d0 l7x1d1
        have c7x2 := Own.cell O7 2 rfl
        have f7x2 := Own.free O7 2 rfl
        have l7x2 := Own.lt O7 2 rfl
        have l7x2d0 := le_up 0 l7x2
        have l7x2d1 := le_up 1 l7x2
        simp only [upN] at l7x2d0 l7x2d1
        have c7x3 := Own.cell O7 3 rfl
        have f7x3 := Own.free O7 3 rfl
        have l7x3 := Own.lt O7 3 rfl
        have l7x3d0 := le_up 0 l7x3
        have l7x3d1 := le_up 1 l7x3
        simp only [upN] at l7x3d0 l7x3d1
        have c7x4 := Own.cell O7 4 rfl
        have f7x4 := Own.free O7 4 rfl
        have l7x4 := Own.lt O7 4 rfl
        have l7x4d0 := le_up 0 l7x4
        have l7x4d1 := le_up 1 l7x4
        simp only [upN] at l7x4d0 l7x4d1
        have c7x5 := Own.cell O7 5 rfl
        have f7x5 := Own.free O7 5 rfl
        have l7x5 := Own.lt O7 5 rfl
        have l7x5d0 := le_up 0 l7x5
        have l7x5d1 := le_up 1 l7x5
        simp only [upN] at l7x5d0 l7x5d1
        have c7x6 := Own.cell O7 6 rfl
        have f7x6 := Own.free O7 6 rfl
        have l7x6 := Own.lt O7 6 rfl
        have l7x6d0 := le_up 0 l7x6
        have l7x6d1 := le_up 1 l7x6
        simp only [upN] at l7x6d0 l7x6d1
        have c7x7 := Own.cell O7 7 rfl
        have f7x7 := Own.free O7 7 rfl
        have l7x7 := Own.lt O7 7 rfl
        have l7x7d0 := le_up 0 l7x7
        have l7x7d1 := le_up 1 l7x7
        simp only [upN] at l7x7d0 l7x7d1
        have c7x8 := Own.cell O7 8 rfl
        have f7x8 := Own.free O7 8 rfl
        have l7x8 := Own.lt O7 8 rfl
        have l7x8d0 := le_up 0 l7x8
        have l7x8d1 := le_up 1 l7x8
        simp only [upN] at l7x8d0 l7x8d1
        have c7x9 := Own.cell O7 9 rfl
        have f7x9 := Own.free O7 9 rfl
        have l7x9 := Own.lt O7 9 rfl
        have l7x9d0 := le_up 0 l7x9
        have l7x9d1 := le_up 1 l7x9
        simp only [upN] at l7x9d0 l7x9d1
        have c7x10 := Own.cell O7 10 rfl
        have f7x10 := Own.free O7 10 rfl
        have l7x10 := Own.lt O7 10 rfl
        have l7x10d0 := le_up 0 l7x10
        have l7x10d1 := le_up 1 l7x10
        simp only [upN] at l7x10d0 l7x10d1
        have HO7 := Lib.hid O7
        clear O7 hb7
        go_wp2_with fail
        gi_wp2
        refine ⟨(Keep.setCell (Keep.setCell (Keep.setCell kk7 _ _ (.inl (by first | (intro h; dsimp only at h; omega) | (intro h; omega)))) _ _ (.inl (by first | (intro h; dsimp only at h; omega) | (intro h; omega)))) _ _ (.inl (by first | (intro h; dsimp only at h; omega) | (intro h; omega)))), ⟨?own1n, ?bel1n, ?dd1n, ?ks1n⟩⟩
        case own1n => dsimp only; rw [hn1, ha1]; refine Own.eqv (Own.set (Own.set (Own.set HO7.out 2 rfl (Ne1.cons (by first | omega | (simp; omega)) (Ne1.cons (by first | omega | (simp; omega)) (Ne1.cons (by first | omega | (simp; omega)) (Ne1.cons (by first | omega | (simp; omega)) (Ne1.cons (by first | omega | (simp; omega)) (Ne1.cons (by first | omega | (simp; omega)) (Ne1.cons (by first | omega | (simp; omega)) (Ne1.cons (by first | omega | (simp; omega)) (Ne1.cons (by first | omega | (simp; omega)) (Ne1.cons (by first | omega | (simp; omega)) Ne1.nil))))))))))) 1 rfl (Ne1.cons (by first | omega | (simp; omega)) (Ne1.cons (by first | omega | (simp; omega)) (Ne1.cons (by first | omega | (simp; omega)) (Ne1.cons (by first | omega | (simp; omega)) (Ne1.cons (by first | omega | (simp; omega)) (Ne1.cons (by first | omega | (simp; omega)) (Ne1.cons (by first | omega | (simp; omega)) (Ne1.cons (by first | omega | (simp; omega)) (Ne1.cons (by first | omega | (simp; omega)) (Ne1.cons (by first | omega | (simp; omega)) Ne1.nil))))))))))) 0 rfl (Ne1.cons (by first | omega | (simp; omega)) (Ne1.cons (by first | omega | (simp; omega)) (Ne1.cons (by first | omega | (simp; omega)) (Ne1.cons (by first | omega | (simp; omega)) (Ne1.cons (by first | omega | (simp; omega)) (Ne1.cons (by first | omega | (simp; omega)) (Ne1.cons (by first | omega | (simp; omega)) (Ne1.cons (by first | omega | (simp; omega)) (Ne1.cons (by first | omega | (simp; omega)) (Ne1.cons (by first | omega | (simp; omega)) Ne1.nil))))))))))) ?_; simp only [List.setIfInBounds_toArray, List.set_cons_zero, List.set_cons_succ]; rfl
        case bel1n => exact (Below.setCell (Below.setCell (Below.setCell (HVB.out.trans (hwc7.mono (by have := HVB.out.size; omega))) (p := ⟨_, 0, none⟩) (by simp; omega) _) (p := ⟨_, 0, none⟩) (by simp; omega) _) (p := ⟨_, 0, none⟩) (by simp; omega) _)
        case ks1n => exact HVK.out.trans (((Keep.setCell (Keep.setCell (Keep.setCell kk7 _ _ (.inl (by first | (intro h; dsimp only at h; omega) | (intro h; omega)))) _ _ (.inl (by first | (intro h; dsimp only at h; omega) | (intro h; omega)))) _ _ (.inl (by first | (intro h; dsimp only at h; omega) | (intro h; omega))))).mono (fun q hq => .inl hq))
        case dd1n => exact fun D h => ((((KeepsOthers.below hwc7).trans (KeepsOthers.setCell _ _ _)).trans (KeepsOthers.setCell _ _ _)).trans (KeepsOthers.setCell _ _ _)).same _ _ (HVD.out D h) rfl
    case hend1 =>
      intro k1 V1 hend hD1
      obtain ⟨hk, hO, hb0, hDD, hkV1⟩ : k1 = m ∧ EI (fun (k : Nat) => [(V0.heap.size + 1 + 1 + 1, #[.int .i64 (k : Nat)], 3), (V0.heap.size + 1 + 1, #[.int .u64 (aK n xs k)], 25), (V0.heap.size + 1, #[.int .i64 (nK n xs k)], 3), (V0.heap.size, #[.int .i64 1], 3), (w1.heap.size + 1 + 1 + 1, #[.int .i64 (k0 : Nat)], 3), (w1.heap.size + 1 + 1, #[.int .u64 (aK n xs k0)], 25), (w1.heap.size + 1, #[.int .i64 (nK n xs k0)], 3), (w1.heap.size, #[.int .i64 0], 3), (w.heap.size + 1 + 1, #[.bool false], 4), (w.heap.size + 1, #[.int .i64 many], 3), (w.heap.size, #[.slice A ln cap], 49)]) w.heap.size w [WL0.heap.size] (fun k => k < w1.heap.size) w1 k1 V1 := by
        rw [zsK_len] at hend
        rcases hend with ⟨h1, h3⟩ | ⟨h1, h3⟩
        · exact ⟨by omega, h3⟩
        · exact h3.elim
      subst hk
      replace hD0 := hDD _ (List.mem_singleton.2 rfl)
      clear hDD
      clear hend
      have O8 := hO
      have c8x0 := Own.cell O8 0 rfl
      have f8x0 := Own.free O8 0 rfl
      have l8x0 := Own.lt O8 0 rfl
      have l8x0d0 := le_up 0 l8x0
      have l8x0d1 := le_up 1 l8x0
      simp only [upN] at l8x0d0 l8x0d1
      have c8x1 := Own.cell O8 1 rfl
      have f8x1 := Own.free O8 1 rfl
      have l8x1 := Own.lt O8 1 rfl
      have l8x1d0 := le_up 0 l8x1
      have l8x1d1 := le_up 1 l8x1
      simp only [upN] at l8x1d0 l8x1d1
      have c8x2 := Own.cell O8 2 rfl
      have f8x2 := Own.free O8 2 rfl
      have l8x2 := Own.lt O8 2 rfl
      have l8x2d0 := le_up 0 l8x2
      have l8x2d1 := le_up 1 l8x2
      simp only [upN] at l8x2d0 l8x2d1
      have c8x3 := Own.cell O8 3 rfl
      have f8x3 := Own.free O8 3 rfl
      have l8x3 := Own.lt O8 3 rfl
      have l8x3d0 := le_up 0 l8x3
      have l8x3d1 := le_up 1 l8x3
      simp only [upN] at l8x3d0 l8x3d1
      have c8x4 := Own.cell O8 4 rfl
      have f8x4 := Own.free O8 4 rfl
      have l8x4 := Own.lt O8 4 rfl
      have l8x4d0 := le_up 0 l8x4
      have l8x4d1 := le_up 1 l8x4
      simp only [upN] at l8x4d0 l8x4d1
      have c8x5 := Own.cell O8 5 rfl
      have f8x5 := Own.free O8 5 rfl
      have l8x5 := Own.lt O8 5 rfl
      have l8x5d0 := le_up 0 l8x5
      have l8x5d1 := le_up 1 l8x5
      simp only [upN] at l8x5d0 l8x5d1
      have c8x6 := Own.cell O8 6 rfl
      have f8x6 := Own.free O8 6 rfl
      have l8x6 := Own.lt O8 6 rfl
      have l8x6d0 := le_up 0 l8x6
      have l8x6d1 := le_up 1 l8x6
      simp only [upN] at l8x6d0 l8x6d1
      have c8x7 := Own.cell O8 7 rfl
      have f8x7 := Own.free O8 7 rfl
      have l8x7 := Own.lt O8 7 rfl
      have l8x7d0 := le_up 0 l8x7
      have l8x7d1 := le_up 1 l8x7
      simp only [upN] at l8x7d0 l8x7d1
      have c8x8 := Own.cell O8 8 rfl
      have f8x8 := Own.free O8 8 rfl
      have l8x8 := Own.lt O8 8 rfl
      have l8x8d0 := le_up 0 l8x8
      have l8x8d1 := le_up 1 l8x8
      simp only [upN] at l8x8d0 l8x8d1
      have c8x9 := Own.cell O8 9 rfl
      have f8x9 := Own.free O8 9 rfl
      have l8x9 := Own.lt O8 9 rfl
      have l8x9d0 := le_up 0 l8x9
      have l8x9d1 := le_up 1 l8x9
      simp only [upN] at l8x9d0 l8x9d1
      have c8x10 := Own.cell O8 10 rfl
      have f8x10 := Own.free O8 10 rfl
      have l8x10 := Own.lt O8 10 rfl
      have l8x10d0 := le_up 0 l8x10
      have l8x10d1 := le_up 1 l8x10
      simp only [upN] at l8x10d0 l8x10d1
      have HO8 := Lib.hid O8
      clear O8
      have hbV1 := hb0
      clear hb0
      have zV1 : WL1.heap.size < V1.heap.size := (Array.getElem?_eq_some_iff.1 hD1).1
      have hk1b : k1 ≤ 12 := by omega
      have d4 : decide ((k1 : Int) < ln) = false := by simp; omega
      go_wp2_with fail
      rw [rounds_succ]
      go_wp2_with fail
      refine (works_any _).mono ?_
      rintro e w9 ⟨rfl, hb9⟩
      have O9 := Own.grow' hb9 (Own.new HO8.out (V1.heap.size) rfl)
      try simp only [List.setIfInBounds_toArray, List.set_cons_zero, List.set_cons_succ] at O9
      have bw9 : Below w.heap.size w w9 := Below.trans (by go_grown) (Below.mono hb9 (by first | omega | (simp; done) | (simp; omega)))
      have zw9 := Below.size hb9
      try simp only [World.size_alloc, World.size_drew, World.size_setCell] at zw9
      replace hD0 := (((KeepsOthers.refl _).trans (KeepsOthers.alloc _ _)).trans (KeepsOthers.below hb9)).same _ _ hD0 rfl
      replace hD1 := (((KeepsOthers.refl _).trans (KeepsOthers.alloc _ _)).trans (KeepsOthers.below hb9)).same _ _ hD1 rfl
      have kk9 := Keep.below (Keep.alloc hkV1 _) hb9
      clear c8x0 f8x0 l8x0 l8x0d0 l8x0d1 c8x1 f8x1 l8x1 l8x1d0 l8x1d1 c8x2 f8x2 l8x2 l8x2d0 l8x2d1 c8x3 f8x3 l8x3 l8x3d0 l8x3d1 c8x4 f8x4 l8x4 l8x4d0 l8x4d1 c8x5 f8x5 l8x5 l8x5d0 l8x5d1 c8x6 f8x6 l8x6 l8x6d0 l8x6d1 c8x7 f8x7 l8x7 l8x7d0 l8x7d1 c8x8 f8x8 l8x8 l8x8d0 l8x8d1 c8x9 f8x9 l8x9 l8x9d0 l8x9d1 c8x10 f8x10 l8x10 l8x10d0 l8x10d1
      have c9x0 := Own.cell O9 0 rfl
      have f9x0 := Own.free O9 0 rfl
      have l9x0 := Own.lt O9 0 rfl
      have l9x0d0 := le_up 0 l9x0
      have l9x0d1 := le_up 1 l9x0
      simp only [upN] at l9x0d0 l9x0d1
      have c9x1 := Own.cell O9 1 rfl
      have f9x1 := Own.free O9 1 rfl
      have l9x1 := Own.lt O9 1 rfl
      have l9x1d0 := le_up 0 l9x1
      have l9x1d1 := le_up 1 l9x1
      simp only [upN] at l9x1d0 l9x1d1
      have c9x2 := Own.cell O9 2 rfl
      have f9x2 := Own.free O9 2 rfl
      have l9x2 := Own.lt O9 2 rfl
      have l9x2d0 := le_up 0 l9x2
      have l9x2d1 := le_up 1 l9x2
      simp only [upN] at l9x2d0 l9x2d1
      have c9x3 := Own.cell O9 3 rfl
      have f9x3 := Own.free O9 3 rfl
      have l9x3 := Own.lt O9 3 rfl
      have l9x3d0 := le_up 0 l9x3
      have l9x3d1 := le_up 1 l9x3
      simp only [upN] at l9x3d0 l9x3d1
      have c9x4 := Own.cell O9 4 rfl
      have f9x4 := Own.free O9 4 rfl
      have l9x4 := Own.lt O9 4 rfl
      have l9x4d0 := le_up 0 l9x4
      have l9x4d1 := le_up 1 l9x4
      simp only [upN] at l9x4d0 l9x4d1
      have c9x5 := Own.cell O9 5 rfl
      have f9x5 := Own.free O9 5 rfl
      have l9x5 := Own.lt O9 5 rfl
      have l9x5d0 := le_up 0 l9x5
      have l9x5d1 := le_up 1 l9x5
      simp only [upN] at l9x5d0 l9x5d1
      have c9x6 := Own.cell O9 6 rfl
      have f9x6 := Own.free O9 6 rfl
      have l9x6 := Own.lt O9 6 rfl
      have l9x6d0 := le_up 0 l9x6
      have l9x6d1 := le_up 1 l9x6
      simp only [upN] at l9x6d0 l9x6d1
      have c9x7 := Own.cell O9 7 rfl
      have f9x7 := Own.free O9 7 rfl
      have l9x7 := Own.lt O9 7 rfl
      have l9x7d0 := le_up 0 l9x7
      have l9x7d1 := le_up 1 l9x7
      simp only [upN] at l9x7d0 l9x7d1
      have c9x8 := Own.cell O9 8 rfl
      have f9x8 := Own.free O9 8 rfl
      have l9x8 := Own.lt O9 8 rfl
      have l9x8d0 := le_up 0 l9x8
      have l9x8d1 := le_up 1 l9x8
      simp only [upN] at l9x8d0 l9x8d1
      have c9x9 := Own.cell O9 9 rfl
      have f9x9 := Own.free O9 9 rfl
      have l9x9 := Own.lt O9 9 rfl
      have l9x9d0 := le_up 0 l9x9
      have l9x9d1 := le_up 1 l9x9
      simp only [upN] at l9x9d0 l9x9d1
      have c9x10 := Own.cell O9 10 rfl
      have f9x10 := Own.free O9 10 rfl
      have l9x10 := Own.lt O9 10 rfl
      have l9x10d0 := le_up 0 l9x10
      have l9x10d1 := le_up 1 l9x10
      simp only [upN] at l9x10d0 l9x10d1
      have c9x11 := Own.cell O9 11 rfl
      have f9x11 := Own.free O9 11 rfl
      have l9x11 := Own.lt O9 11 rfl
      have l9x11d0 := le_up 0 l9x11
      have l9x11d1 := le_up 1 l9x11
      simp only [upN] at l9x11d0 l9x11d1
      have HO9 := Lib.hid O9
      clear O9 hb9
      go_wp2_with fail
      try rw [zWL0] at hD0
      try rw [zWL1] at hD1
      refine ret_mark2 (D := w1.heap.size + 4) (E := V0.heap.size + 4) (v := .bool true) (((KeepsOthers.refl _).trans (KeepsOthers.setCell _ _ _)).same _ _ hD0 rfl) (((KeepsOthers.refl _).trans (KeepsOthers.setCell _ _ _)).same _ _ hD1 rfl) (by omega) ?_ ?_
      · have c6 : ((((w9).setCell ⟨w.heap.size + 1 + 1, 0, none⟩ (.bool true)).putObj (V0.heap.size + 4) (.deferred none)).putObj (w1.heap.size + 4) (.deferred none)).cell? ⟨w.heap.size + 1 + 1, 0, none⟩ = some (.bool true) := (((Own.get (Own.set HO9.out 9 rfl (Ne1.cons (by first | omega | (simp; omega)) (Ne1.cons (by first | omega | (simp; omega)) (Ne1.cons (by first | omega | (simp; omega)) (Ne1.cons (by first | omega | (simp; omega)) (Ne1.cons (by first | omega | (simp; omega)) (Ne1.cons (by first | omega | (simp; omega)) (Ne1.cons (by first | omega | (simp; omega)) (Ne1.cons (by first | omega | (simp; omega)) (Ne1.cons (by first | omega | (simp; omega)) (Ne1.cons (by first | omega | (simp; omega)) (Ne1.cons (by first | omega | (simp; omega)) Ne1.nil)))))))))))) 9 rfl).put (D := V0.heap.size + 4) (.deferred none) (by omega)).put (D := w1.heap.size + 4) (.deferred none) (by omega)).cell 0
        simp [results, Try.results6, go_sem, c6]
      · exact ⟨rfl, Below.put (Below.put (by go_grown) _ (by omega)) _ (by omega)⟩

set_option maxHeartbeats 16000000 in
set_option maxRecDepth 100000 in
theorem preach_gs (A : Option Addr) (n : Int) (xs : List WW) (cap m : Nat) (many : Int) (w : World) (hS : SlAt w A (pairsC xs)) (hcap : xs.length ≤ cap) (hn : xs.length ≤ 12) (hm : Upto n xs m) (hms : m < xs.length) :
    Calls Try.prog 6 #[.int .i64 n, .slice A xs.length cap, .int .i64 many] w fun e w' => e = .returned (.bool true) ∧ Below w.heap.size w w' := by
  have qF := run_eql_func_nil Try.underlying51
  have HX := Lib.hid (fun (W : World) (hb : Below w.heap.size w W) => hS.below rfl hb)
  have HSZ := Lib.hid (fun (W : World) (hW : SlAt W A (pairsC xs)) => sizes_any A n xs cap m W hW hcap (by omega) hm)
  have HM := Lib.hid hm
  have hml := hm.1
  clear hS hm
  generalize hln : xs.length = ln at *
  have d101 : decide ((12 : Int) < ln) = false := by simp <;> omega
  refine calls_marks Try.func6 rfl ?_
  simp only [Try.ntmps6, List.size_toArray, List.length_cons, List.length_nil, Nat.reduceAdd, Nat.reduceSub, Array.replicate_succ, Array.replicate_zero, List.push_toArray, List.append_toArray, List.nil_append, List.cons_append]
  go_wp2_with fail
  refine (HSZ.out _ (HX.out _ (by go_grown))).mono ?_
  rintro e w1 ⟨bk, bk2, n0, rfl, hn0, hseq, hb1⟩
  have O1 := Own.grow' hb1 (Own.new (Own.new (Own.new (Own.nil w) (w.heap.size) rfl) (w.heap.size + 1) (by simp)) (w.heap.size + 1 + 1) (by simp))
  try simp only [List.setIfInBounds_toArray, List.set_cons_zero, List.set_cons_succ] at O1
  have bw1 : Below w.heap.size w w1 := Below.trans (by go_grown) (Below.mono hb1 (by first | omega | (simp; done) | (simp; omega)))
  have zw1 := Below.size hb1
  try simp only [World.size_alloc, World.size_drew, World.size_setCell] at zw1
  have c1x0 := Own.cell O1 0 rfl
  have f1x0 := Own.free O1 0 rfl
  have l1x0 := Own.lt O1 0 rfl
  have l1x0d0 := le_up 0 l1x0
  have l1x0d1 := le_up 1 l1x0
  simp only [upN] at l1x0d0 l1x0d1
  have c1x1 := Own.cell O1 1 rfl
  have f1x1 := Own.free O1 1 rfl
  have l1x1 := Own.lt O1 1 rfl
  have l1x1d0 := le_up 0 l1x1
  have l1x1d1 := le_up 1 l1x1
  simp only [upN] at l1x1d0 l1x1d1
  have c1x2 := Own.cell O1 2 rfl
  have f1x2 := Own.free O1 2 rfl
  have l1x2 := Own.lt O1 2 rfl
  have l1x2d0 := le_up 0 l1x2
  have l1x2d1 := le_up 1 l1x2
  simp only [upN] at l1x2d0 l1x2d1
  have HO1 := Lib.hid O1
  clear O1 hb1
  subst hn0
  have HSEQ := Lib.hid hseq
  clear hseq
  go_wp2_with fail
  refine wp_loop_rounds 3 ?_
  rw [rounds_succ]
  go_wp2_with fail
  refine wp_name fun WL0 hWL0 => ?_
  have zWL0 : WL0.heap.size = w1.heap.size + 4 := by rw [hWL0]; simp
  have hbWL0 : Below w.heap.size w WL0 := by rw [hWL0]; go_grown
  have hkS0 : Keep (fun k => k < w1.heap.size) w1 WL0 := by rw [hWL0]; exact (Keep.alloc (Keep.alloc (Keep.alloc (Keep.alloc (Keep.refl (fun k => k < w1.heap.size) w1) _) _) _) _)
  have hoL0 := Lib.hid (show Own _ WL0 by rw [hWL0]; exact (Own.new (Own.new (Own.new (Own.new HO1.out (w1.heap.size) rfl) (w1.heap.size + 1) (by simp)) (w1.heap.size + 1 + 1) (by simp)) (w1.heap.size + 1 + 1 + 1) (by simp)))
  clear hWL0
  have hI0 : AnyFrom WL0.heap.size (EI (fun (k : Nat) => [(w1.heap.size + 1 + 1 + 1, #[.int .i64 (k : Nat)], 3), (w1.heap.size + 1 + 1, #[.int .u64 (aK n xs k)], 25), (w1.heap.size + 1, #[.int .i64 (nK n xs k)], 3), (w1.heap.size, #[.int .i64 0], 3), (w.heap.size + 1 + 1, #[.bool false], 4), (w.heap.size + 1, #[.int .i64 many], 3), (w.heap.size, #[.slice A ln cap], 49)]) w.heap.size w [] (fun k => k < w1.heap.size) w1) := EI.any (by simp only [List.mem_cons, List.not_mem_nil, or_false, forall_eq, forall_eq_or_imp]; first | omega | exact fun _ h => h.elim | simp) (by simp only [List.mem_cons, List.not_mem_nil, or_false, forall_eq, forall_eq_or_imp]; first | omega | exact fun _ h => h.elim | simp) (Nat.le_refl _) (by have := hbWL0.size; omega) (fun k hk => by first | omega | (dsimp only at hk; omega))
  refine wp_each_block (w0 := w1) (S := (fun k => k < w1.heap.size)) (xs := zsK n xs m) (encs := encZ) rfl (enters_of Try.func33 (by kernel_rfl) rfl) HSEQ.out (fun k hk => by first | omega | (dsimp only at hk; omega)) hkS0 (fun _ _ => rfl) (fun k V => EI (fun (k : Nat) => [(w1.heap.size + 1 + 1 + 1, #[.int .i64 (k : Nat)], 3), (w1.heap.size + 1 + 1, #[.int .u64 (aK n xs k)], 25), (w1.heap.size + 1, #[.int .i64 (nK n xs k)], 3), (w1.heap.size, #[.int .i64 0], 3), (w.heap.size + 1 + 1, #[.bool false], 4), (w.heap.size + 1, #[.int .i64 many], 3), (w.heap.size, #[.slice A ln cap], 49)]) w.heap.size w [] (fun k => k < w1.heap.size) w1 k V) (fun k V => EI (fun (k : Nat) => [(w1.heap.size + 1 + 1 + 1, #[.int .i64 (k : Nat)], 3), (w1.heap.size + 1 + 1, #[.int .u64 (aK n xs k)], 25), (w1.heap.size + 1, #[.int .i64 (nK n xs k)], 3), (w1.heap.size, #[.int .i64 0], 3), (w.heap.size + 1 + 1, #[.bool false], 4), (w.heap.size + 1, #[.int .i64 many], 3), (w.heap.size, #[.slice A ln cap], 49)]) w.heap.size w [] (fun k => k < w1.heap.size) w1 k V) ?hI0 ?hIx0 ?h00 ?round0 ?hend0
  case hI0 => exact hI0
  case hIx0 => exact hI0
  case h00 => exact ⟨hoL0.out, hbWL0, fun D h => (by cases h), hkS0⟩
  case round0 =>
    rintro l' k x V hx hE hl'
    gi_wp2
    refine ⟨Keep.refl _ _, EI (fun (k : Nat) => [(w1.heap.size + 1 + 1 + 1, #[.int .i64 (k : Nat)], 3), (w1.heap.size + 1 + 1, #[.int .u64 (aK n xs k)], 25), (w1.heap.size + 1, #[.int .i64 (nK n xs k)], 3), (w1.heap.size, #[.int .i64 0], 3), (w.heap.size + 1 + 1, #[.bool false], 4), (w.heap.size + 1, #[.int .i64 many], 3), (w.heap.size, #[.slice A ln cap], 49)]) w.heap.size w [] (fun k => k < w1.heap.size) w1 k, fun _ V V2 row h hg hr => hI0.from k V V2 row h hg hr, hE, ?body0⟩
    case body0 =>
      rintro V2 ⟨hO2, hb2, hD2, hK2⟩
      dsimp only at hO2
      have hkm : k < m := by have := (List.getElem?_eq_some_iff.1 hx).1; rw [zsK_len] at this; exact this
      obtain rfl : x = (nK n xs (k + 1), aK n xs (k + 1)) := by rw [zsK_at hkm] at hx; cases hx; rfl
      clear hx
      obtain ⟨y, hy⟩ : ∃ y, xs[k]? = some y := ⟨xs[k]'(by rw [hln]; omega), by simp⟩
      obtain ⟨b', off, rfl, hbl, hcell⟩ := (HX.out V2 hb2).cell (pairsC_at (j := 0) hy (by rfl))
      have hc0 : V2.cell? ⟨b', off + k * 8, none⟩ = some (.int .u64 (L y.1 0)) := by have := hcell (k * 8) _ (pairsC_at (j := 0) hy (by rfl)); simpa [Nat.add_assoc] using this
      have hc1 : V2.cell? ⟨b', off + k * 8 + 1, none⟩ = some (.int .u64 (L y.1 1)) := by have := hcell (k * 8 + 1) _ (pairsC_at (j := 1) hy (by rfl)); simpa [Nat.add_assoc] using this
      have hc2 : V2.cell? ⟨b', off + k * 8 + 2, none⟩ = some (.int .u64 (L y.1 2)) := by have := hcell (k * 8 + 2) _ (pairsC_at (j := 2) hy (by rfl)); simpa [Nat.add_assoc] using this
      have hc3 : V2.cell? ⟨b', off + k * 8 + 3, none⟩ = some (.int .u64 (L y.1 3)) := by have := hcell (k * 8 + 3) _ (pairsC_at (j := 3) hy (by rfl)); simpa [Nat.add_assoc] using this
      have hc4 : V2.cell? ⟨b', off + k * 8 + 4, none⟩ = some (.int .u64 (L y.2 0)) := by have := hcell (k * 8 + 4) _ (pairsC_at (j := 4) hy (by rfl)); simpa [Nat.add_assoc] using this
      have hc5 : V2.cell? ⟨b', off + k * 8 + 5, none⟩ = some (.int .u64 (L y.2 1)) := by have := hcell (k * 8 + 5) _ (pairsC_at (j := 5) hy (by rfl)); simpa [Nat.add_assoc] using this
      have hc6 : V2.cell? ⟨b', off + k * 8 + 6, none⟩ = some (.int .u64 (L y.2 2)) := by have := hcell (k * 8 + 6) _ (pairsC_at (j := 6) hy (by rfl)); simpa [Nat.add_assoc] using this
      have hc7 : V2.cell? ⟨b', off + k * 8 + 7, none⟩ = some (.int .u64 (L y.2 3)) := by have := hcell (k * 8 + 7) _ (pairsC_at (j := 7) hy (by rfl)); simpa [Nat.add_assoc] using this
      clear hcell
      have hkb : k < 100 := by omega
      have d2 : decide ((ln : Int) ≤ k) = false := by simp; omega
      have d2' : decide (ln ≤ k) = false := by simp; omega
      have hRX := fun V => refReach_yes hy (HM.out.2.1 k hkm) V
      have habd := aK_bd n xs k
      have hcbd := reachC_bd (nK n xs k) (atW xs k).1 (atW xs k).2
      have hwr : IntKind.u64.wrap (aK n xs k + reachC (nK n xs k) (atW xs k).1 (atW xs k).2) = aK n xs (k + 1) := by rw [IntWalk.u64_in _ (by omega)]; rfl
      generalize hcK : reachC (nK n xs k) (atW xs k).1 (atW xs k).2 = cK at *
      generalize hn1 : nK n xs (k + 1) = n1 at *
      generalize ha1 : aK n xs (k + 1) = a1 at *
      generalize nK n xs k = nk at *
      generalize aK n xs k = ak at *
      have HRX := Lib.hid hRX
      clear hRX
      have HVB := Lib.hid hb2
      have HVD := Lib.hid hD2
      have HVK := Lib.hid hK2
      clear hD2 hK2 hE habd hcbd hcK
      have O2 := hO2
      have c2x0 := Own.cell O2 0 rfl
      have f2x0 := Own.free O2 0 rfl
      have l2x0 := Own.lt O2 0 rfl
      have l2x0d0 := le_up 0 l2x0
      have l2x0d1 := le_up 1 l2x0
      simp only [upN] at l2x0d0 l2x0d1
      have c2x1 := Own.cell O2 1 rfl
      have f2x1 := Own.free O2 1 rfl
      have l2x1 := Own.lt O2 1 rfl
      have l2x1d0 := le_up 0 l2x1
      have l2x1d1 := le_up 1 l2x1
      simp only [upN] at l2x1d0 l2x1d1
      have c2x2 := Own.cell O2 2 rfl
      have f2x2 := Own.free O2 2 rfl
      have l2x2 := Own.lt O2 2 rfl
      have l2x2d0 := le_up 0 l2x2
      have l2x2d1 := le_up 1 l2x2
      simp only [upN] at l2x2d0 l2x2d1
      have c2x3 := Own.cell O2 3 rfl
      have f2x3 := Own.free O2 3 rfl
      have l2x3 := Own.lt O2 3 rfl
      have l2x3d0 := le_up 0 l2x3
      have l2x3d1 := le_up 1 l2x3
      simp only [upN] at l2x3d0 l2x3d1
      have c2x4 := Own.cell O2 4 rfl
      have f2x4 := Own.free O2 4 rfl
      have l2x4 := Own.lt O2 4 rfl
      have l2x4d0 := le_up 0 l2x4
      have l2x4d1 := le_up 1 l2x4
      simp only [upN] at l2x4d0 l2x4d1
      have c2x5 := Own.cell O2 5 rfl
      have f2x5 := Own.free O2 5 rfl
      have l2x5 := Own.lt O2 5 rfl
      have l2x5d0 := le_up 0 l2x5
      have l2x5d1 := le_up 1 l2x5
      simp only [upN] at l2x5d0 l2x5d1
      have c2x6 := Own.cell O2 6 rfl
      have f2x6 := Own.free O2 6 rfl
      have l2x6 := Own.lt O2 6 rfl
      have l2x6d0 := le_up 0 l2x6
      have l2x6d1 := le_up 1 l2x6
      simp only [upN] at l2x6d0 l2x6d1
      have HO2 := Lib.hid O2
      clear O2
      by_cases hk2 : (k : Int) + 1 < many
      · have d3 : decide (many ≤ (k : Int) + 1) = false := by simp; omega
        gi_wp2
        refine regInG (by kernel_rfl) (fun ⟨_, _, h⟩ => h) V2.heap.size 19 0 0 [(0, 0, 35184372088832, 512), (1, 0, 70368744177664, 16), (2, 0, 140737488355328, 2048), (3, 6, 281474976710656, 211106232532992), (4, 8, 562949953421312, 281474976710656), (5, 16, 1125899906842624, 562949953421312), (6, 0, 2251799813685248, 16), (7, 0, 4503599627370496, 2048), (8, 192, 9007199254740992, 6755399441055744), (9, 256, 18014398509481984, 9007199254740992), (10, 512, 36028797018963968, 18014398509481984), (11, 1057, 72057594037927936, 37189881297895424), (12, 2048, 17592186044416, 72057594037927936), (13, 4096, 144115188075855872, 17592186044416), (14, 4096, 288230376151711744, 17592186044416), (15, 4096, 576460752303423488, 17592186044416), (16, 16383, 16384, 144115188075855872), (17, 98303, 32768, 288230376151711744), (18, 262143, 65536, 576460752303423488)] [(.p 0, 1), (.p 1, 3), (.p 2, 7), (.p 3, 15), (.p 4, 31), (.q 5, 63), (.p 6, 127), (.p 7, 255), (.p 8, 511), (.p 9, 1023), (.q 10, 2047), (.p 11, 4095), (.p 12, 8191), (.p 13, 16383), (.p 14, 32767), (.p 15, 65535), (.p 16, 131071), (.p 17, 262143), (.p 18, 524287)] [] _ (fun p hp => hp) (by first | omega | (simp; done) | (simp; omega)) (by kernel_rfl) (by kernel_rfl) HO2.out ?_
        refine wpG_pure (i := 0) (v := ?v3x0) rfl rfl (by rfl) (fun w hB hG K hK => ?h3x0) ?_
        case h3x0 =>
          have cx := Own.cell hG 2 rfl
          go_wp2_with fail
          exact hK _ (Below.refl _ _)
        simp only [List.set_cons_zero, List.set_cons_succ]
        refine wpG_pure (i := 1) (v := ?v3x1) rfl rfl (by rfl) (fun w hB hG K hK => ?h3x1) ?_
        case h3x1 =>
          have cx := Own.cell hG 6 rfl
          go_wp2_with fail
          exact hK _ (Below.refl _ _)
        simp only [List.set_cons_zero, List.set_cons_succ]
        refine wpG_pure (i := 2) (v := ?v3x2) rfl rfl (by rfl) (fun w hB hG K hK => ?h3x2) ?_
        case h3x2 =>
          have cx := Own.cell hG 0 rfl
          go_wp2_with fail
          exact hK _ (Below.refl _ _)
        simp only [List.set_cons_zero, List.set_cons_succ]
        refine wpG_pure (i := 3) (v := ?v3x3) rfl rfl (by rfl) (fun w hB hG K hK => ?h3x3) ?_
        case h3x3 =>
          go_wp2_with fail
          exact hK _ (Below.refl _ _)
        simp only [List.set_cons_zero, List.set_cons_succ]
        refine wpG_pure (i := 4) (v := ?v3x4) rfl rfl (by rfl) (fun w hB hG K hK => ?h3x4) ?_
        case h3x4 =>
          go_wp2_with fail
          exact hK _ (Below.refl _ _)
        simp only [List.set_cons_zero, List.set_cons_succ]
        refine wpG_op (i := 5) (v := ?v3x5) rfl rfl (by rfl) (fun w hB hG K hK => ?h3x5) ?_
        case h3x5 =>
          have hx0 := (hB.cell (p := ⟨b', off + k * 8, none⟩) (World.block_lt_of_cell? V2 _ hc0)).trans hc0
          have hx1 := (hB.cell (p := ⟨b', off + k * 8 + 1, none⟩) (World.block_lt_of_cell? V2 _ hc1)).trans hc1
          have hx2 := (hB.cell (p := ⟨b', off + k * 8 + 2, none⟩) (World.block_lt_of_cell? V2 _ hc2)).trans hc2
          have hx3 := (hB.cell (p := ⟨b', off + k * 8 + 3, none⟩) (World.block_lt_of_cell? V2 _ hc3)).trans hc3
          go_wp2_with fail
          exact hK _ (Below.refl _ _)
        simp only [List.set_cons_zero, List.set_cons_succ]
        refine wpG_pure (i := 6) (v := ?v3x6) rfl rfl (by rfl) (fun w hB hG K hK => ?h3x6) ?_
        case h3x6 =>
          have cx := Own.cell hG 6 rfl
          go_wp2_with fail
          exact hK _ (Below.refl _ _)
        simp only [List.set_cons_zero, List.set_cons_succ]
        refine wpG_pure (i := 7) (v := ?v3x7) rfl rfl (by rfl) (fun w hB hG K hK => ?h3x7) ?_
        case h3x7 =>
          have cx := Own.cell hG 0 rfl
          go_wp2_with fail
          exact hK _ (Below.refl _ _)
        simp only [List.set_cons_zero, List.set_cons_succ]
        refine wpG_pure (i := 8) (v := ?v3x8) rfl rfl (by rfl) (fun w hB hG K hK => ?h3x8) ?_
        case h3x8 =>
          go_wp2_with fail
          exact hK _ (Below.refl _ _)
        simp only [List.set_cons_zero, List.set_cons_succ]
        refine wpG_pure (i := 9) (v := ?v3x9) rfl rfl (by rfl) (fun w hB hG K hK => ?h3x9) ?_
        case h3x9 =>
          go_wp2_with fail
          exact hK _ (Below.refl _ _)
        simp only [List.set_cons_zero, List.set_cons_succ]
        refine wpG_op (i := 10) (v := ?v3x10) rfl rfl (by rfl) (fun w hB hG K hK => ?h3x10) ?_
        case h3x10 =>
          have hx4 := (hB.cell (p := ⟨b', off + k * 8 + 4, none⟩) (World.block_lt_of_cell? V2 _ hc4)).trans hc4
          have hx5 := (hB.cell (p := ⟨b', off + k * 8 + 5, none⟩) (World.block_lt_of_cell? V2 _ hc5)).trans hc5
          have hx6 := (hB.cell (p := ⟨b', off + k * 8 + 6, none⟩) (World.block_lt_of_cell? V2 _ hc6)).trans hc6
          have hx7 := (hB.cell (p := ⟨b', off + k * 8 + 7, none⟩) (World.block_lt_of_cell? V2 _ hc7)).trans hc7
          have hx4' := hx4
          have hx5' := hx5
          have hx6' := hx6
          have hx7' := hx7
          go_wp2_with fail
          exact hK _ (Below.refl _ _)
        simp only [List.set_cons_zero, List.set_cons_succ]
        refine wpG_pure (i := 11) (v := ?v3x11) rfl rfl (by rfl) (fun w hB hG K hK => ?h3x11) ?_
        case h3x11 =>
          go_wp2_with fail
          refine (HRX.out _).mono ?_
          rintro e wx ⟨rfl, hbx⟩
          exact hK _ hbx
        simp only [List.set_cons_zero, List.set_cons_succ]
        refine wpG_move (i := 12) rfl rfl rfl (by rfl) rfl ?_
        simp only [List.set_cons_zero, List.set_cons_succ]
        refine wpG_pure (i := 13) (v := ?v3x13) rfl rfl (by rfl) (fun w hB hG K hK => ?h3x13) ?_
        case h3x13 =>
          go_wp2_with fail
          exact hK _ (Below.refl _ _)
        simp only [List.set_cons_zero, List.set_cons_succ]
        refine wpG_pure (i := 14) (v := ?v3x14) rfl rfl (by rfl) (fun w hB hG K hK => ?h3x14) ?_
        case h3x14 =>
          go_wp2_with fail
          exact hK _ (Below.refl _ _)
        simp only [List.set_cons_zero, List.set_cons_succ]
        refine wpG_pure (i := 15) (v := ?v3x15) rfl rfl (by rfl) (fun w hB hG K hK => ?h3x15) ?_
        case h3x15 =>
          go_wp2_with fail
          exact hK _ (Below.refl _ _)
        simp only [List.set_cons_zero, List.set_cons_succ]
        refine wpG_assign (i := 16) rfl rfl rfl (by rfl) rfl ?_
        simp only [List.set_cons_zero, List.set_cons_succ]
        refine wpG_assign (i := 17) rfl rfl rfl (by rfl) rfl ?_
        simp only [List.set_cons_zero, List.set_cons_succ]
        refine wpG_assign (i := 18) rfl rfl rfl (by rfl) rfl ?_
        simp only [List.set_cons_zero, List.set_cons_succ]
        refine wpG_nil (fun w3 hb3 hG3 => ?_)
        simp only [List.append_eq, List.cons_append, List.nil_append, List.drop_succ_cons, List.drop_zero, List.drop_nil]
        have O3 := Own.of hG3
        try simp only [List.setIfInBounds_toArray, List.set_cons_zero, List.set_cons_succ] at O3
        have bw3 : Below w.heap.size w w3 := Below.trans (by go_grown) (Below.mono hb3 (by first | omega | (simp; done) | (simp; omega)))
        have zw3 := Below.size hb3
        try simp only [World.size_alloc, World.size_drew, World.size_setCell] at zw3
        have kk3 := Keep.below (Keep.refl (fun b => b < w1.heap.size ∨ WL0.heap.size ≤ b) V2) hb3
        have hwc3 : Below V2.heap.size V2 w3 := Below.trans (by go_grown) (Below.mono hb3 (by first | omega | (simp; done) | (simp; omega)))
        clear c2x0 f2x0 l2x0 l2x0d0 l2x0d1 c2x1 f2x1 l2x1 l2x1d0 l2x1d1 c2x2 f2x2 l2x2 l2x2d0 l2x2d1 c2x3 f2x3 l2x3 l2x3d0 l2x3d1 c2x4 f2x4 l2x4 l2x4d0 l2x4d1 c2x5 f2x5 l2x5 l2x5d0 l2x5d1 c2x6 f2x6 l2x6 l2x6d0 l2x6d1
        have c3x0 := Own.cell O3 0 rfl
        have f3x0 := Own.free O3 0 rfl
        have l3x0 := Own.lt O3 0 rfl
        have l3x0d0 := le_up 0 l3x0
        have l3x0d1 := le_up 1 l3x0
        simp only [upN] at l3x0d0 l3x0d1
        have c3x1 := Own.cell O3 1 rfl
        have f3x1 := Own.free O3 1 rfl
        have l3x1 := Own.lt O3 1 rfl
        have l3x1d0 := le_up 0 l3x1
        have l3x1d1 := le_up 1 l3x1
        simp only [upN] at l3x1d0 l3x1d1
        have c3x2 := Own.cell O3 2 rfl
        have f3x2 := Own.free O3 2 rfl
        have l3x2 := Own.lt O3 2 rfl
        have l3x2d0 := le_up 0 l3x2
        have l3x2d1 := le_up 1 l3x2
        simp only [upN] at l3x2d0 l3x2d1
        have c3x3 := Own.cell O3 3 rfl
        have f3x3 := Own.free O3 3 rfl
        have l3x3 := Own.lt O3 3 rfl
        have l3x3d0 := le_up 0 l3x3
        have l3x3d1 := le_up 1 l3x3
        simp only [upN] at l3x3d0 l3x3d1
        have c3x4 := Own.cell O3 4 rfl
        have f3x4 := Own.free O3 4 rfl
        have l3x4 := Own.lt O3 4 rfl
        have l3x4d0 := le_up 0 l3x4
        have l3x4d1 := le_up 1 l3x4
        simp only [upN] at l3x4d0 l3x4d1
        have c3x5 := Own.cell O3 5 rfl
        have f3x5 := Own.free O3 5 rfl
        have l3x5 := Own.lt O3 5 rfl
        have l3x5d0 := le_up 0 l3x5
        have l3x5d1 := le_up 1 l3x5
        simp only [upN] at l3x5d0 l3x5d1
        have c3x6 := Own.cell O3 6 rfl
        have f3x6 := Own.free O3 6 rfl
        have l3x6 := Own.lt O3 6 rfl
        have l3x6d0 := le_up 0 l3x6
        have l3x6d1 := le_up 1 l3x6
        simp only [upN] at l3x6d0 l3x6d1
        have HO3 := Lib.hid O3
        clear O3 hb3
        go_wp2_with fail
        gi_wp2
        refine ⟨(Keep.setCell (Keep.setCell (Keep.setCell kk3 _ _ (.inl (by first | (intro h; dsimp only at h; omega) | (intro h; omega)))) _ _ (.inl (by first | (intro h; dsimp only at h; omega) | (intro h; omega)))) _ _ (.inl (by first | (intro h; dsimp only at h; omega) | (intro h; omega)))), ⟨?own0n, ?bel0n, ?dd0n, ?ks0n⟩⟩
        case own0n => dsimp only; rw [hn1, ha1]; refine Own.eqv (Own.set (Own.set (Own.set HO3.out 2 rfl (Ne1.cons (by first | omega | (simp; omega)) (Ne1.cons (by first | omega | (simp; omega)) (Ne1.cons (by first | omega | (simp; omega)) (Ne1.cons (by first | omega | (simp; omega)) (Ne1.cons (by first | omega | (simp; omega)) (Ne1.cons (by first | omega | (simp; omega)) Ne1.nil))))))) 1 rfl (Ne1.cons (by first | omega | (simp; omega)) (Ne1.cons (by first | omega | (simp; omega)) (Ne1.cons (by first | omega | (simp; omega)) (Ne1.cons (by first | omega | (simp; omega)) (Ne1.cons (by first | omega | (simp; omega)) (Ne1.cons (by first | omega | (simp; omega)) Ne1.nil))))))) 0 rfl (Ne1.cons (by first | omega | (simp; omega)) (Ne1.cons (by first | omega | (simp; omega)) (Ne1.cons (by first | omega | (simp; omega)) (Ne1.cons (by first | omega | (simp; omega)) (Ne1.cons (by first | omega | (simp; omega)) (Ne1.cons (by first | omega | (simp; omega)) Ne1.nil))))))) ?_; simp only [List.setIfInBounds_toArray, List.set_cons_zero, List.set_cons_succ]; rfl
        case bel0n => exact (Below.setCell (Below.setCell (Below.setCell (HVB.out.trans (hwc3.mono (by have := HVB.out.size; omega))) (p := ⟨_, 0, none⟩) (by simp; omega) _) (p := ⟨_, 0, none⟩) (by simp; omega) _) (p := ⟨_, 0, none⟩) (by simp; omega) _)
        case ks0n => exact HVK.out.trans (((Keep.setCell (Keep.setCell (Keep.setCell kk3 _ _ (.inl (by first | (intro h; dsimp only at h; omega) | (intro h; omega)))) _ _ (.inl (by first | (intro h; dsimp only at h; omega) | (intro h; omega)))) _ _ (.inl (by first | (intro h; dsimp only at h; omega) | (intro h; omega))))).mono (fun q hq => .inl hq))
        case dd0n => exact fun D h => ((((KeepsOthers.below hwc3).trans (KeepsOthers.setCell _ _ _)).trans (KeepsOthers.setCell _ _ _)).trans (KeepsOthers.setCell _ _ _)).same _ _ (HVD.out D h) rfl
      · have d3 : decide (many ≤ (k : Int) + 1) = true := by simp; omega
        gi_wp2
        refine regInG (by kernel_rfl) (fun ⟨_, _, h⟩ => h) V2.heap.size 19 0 0 [(0, 0, 35184372088832, 512), (1, 0, 70368744177664, 16), (2, 0, 140737488355328, 2048), (3, 6, 281474976710656, 211106232532992), (4, 8, 562949953421312, 281474976710656), (5, 16, 1125899906842624, 562949953421312), (6, 0, 2251799813685248, 16), (7, 0, 4503599627370496, 2048), (8, 192, 9007199254740992, 6755399441055744), (9, 256, 18014398509481984, 9007199254740992), (10, 512, 36028797018963968, 18014398509481984), (11, 1057, 72057594037927936, 37189881297895424), (12, 2048, 17592186044416, 72057594037927936), (13, 4096, 144115188075855872, 17592186044416), (14, 4096, 288230376151711744, 17592186044416), (15, 4096, 576460752303423488, 17592186044416), (16, 16383, 16384, 144115188075855872), (17, 98303, 32768, 288230376151711744), (18, 262143, 65536, 576460752303423488)] [(.p 0, 1), (.p 1, 3), (.p 2, 7), (.p 3, 15), (.p 4, 31), (.q 5, 63), (.p 6, 127), (.p 7, 255), (.p 8, 511), (.p 9, 1023), (.q 10, 2047), (.p 11, 4095), (.p 12, 8191), (.p 13, 16383), (.p 14, 32767), (.p 15, 65535), (.p 16, 131071), (.p 17, 262143), (.p 18, 524287)] [] _ (fun p hp => hp) (by first | omega | (simp; done) | (simp; omega)) (by kernel_rfl) (by kernel_rfl) HO2.out ?_
        refine wpG_pure (i := 0) (v := ?v4x0) rfl rfl (by rfl) (fun w hB hG K hK => ?h4x0) ?_
        case h4x0 =>
          have cx := Own.cell hG 2 rfl
          go_wp2_with fail
          exact hK _ (Below.refl _ _)
        simp only [List.set_cons_zero, List.set_cons_succ]
        refine wpG_pure (i := 1) (v := ?v4x1) rfl rfl (by rfl) (fun w hB hG K hK => ?h4x1) ?_
        case h4x1 =>
          have cx := Own.cell hG 6 rfl
          go_wp2_with fail
          exact hK _ (Below.refl _ _)
        simp only [List.set_cons_zero, List.set_cons_succ]
        refine wpG_pure (i := 2) (v := ?v4x2) rfl rfl (by rfl) (fun w hB hG K hK => ?h4x2) ?_
        case h4x2 =>
          have cx := Own.cell hG 0 rfl
          go_wp2_with fail
          exact hK _ (Below.refl _ _)
        simp only [List.set_cons_zero, List.set_cons_succ]
        refine wpG_pure (i := 3) (v := ?v4x3) rfl rfl (by rfl) (fun w hB hG K hK => ?h4x3) ?_
        case h4x3 =>
          go_wp2_with fail
          exact hK _ (Below.refl _ _)
        simp only [List.set_cons_zero, List.set_cons_succ]
        refine wpG_pure (i := 4) (v := ?v4x4) rfl rfl (by rfl) (fun w hB hG K hK => ?h4x4) ?_
        case h4x4 =>
          go_wp2_with fail
          exact hK _ (Below.refl _ _)
        simp only [List.set_cons_zero, List.set_cons_succ]
        refine wpG_op (i := 5) (v := ?v4x5) rfl rfl (by rfl) (fun w hB hG K hK => ?h4x5) ?_
        case h4x5 =>
          have hx0 := (hB.cell (p := ⟨b', off + k * 8, none⟩) (World.block_lt_of_cell? V2 _ hc0)).trans hc0
          have hx1 := (hB.cell (p := ⟨b', off + k * 8 + 1, none⟩) (World.block_lt_of_cell? V2 _ hc1)).trans hc1
          have hx2 := (hB.cell (p := ⟨b', off + k * 8 + 2, none⟩) (World.block_lt_of_cell? V2 _ hc2)).trans hc2
          have hx3 := (hB.cell (p := ⟨b', off + k * 8 + 3, none⟩) (World.block_lt_of_cell? V2 _ hc3)).trans hc3
          go_wp2_with fail
          exact hK _ (Below.refl _ _)
        simp only [List.set_cons_zero, List.set_cons_succ]
        refine wpG_pure (i := 6) (v := ?v4x6) rfl rfl (by rfl) (fun w hB hG K hK => ?h4x6) ?_
        case h4x6 =>
          have cx := Own.cell hG 6 rfl
          go_wp2_with fail
          exact hK _ (Below.refl _ _)
        simp only [List.set_cons_zero, List.set_cons_succ]
        refine wpG_pure (i := 7) (v := ?v4x7) rfl rfl (by rfl) (fun w hB hG K hK => ?h4x7) ?_
        case h4x7 =>
          have cx := Own.cell hG 0 rfl
          go_wp2_with fail
          exact hK _ (Below.refl _ _)
        simp only [List.set_cons_zero, List.set_cons_succ]
        refine wpG_pure (i := 8) (v := ?v4x8) rfl rfl (by rfl) (fun w hB hG K hK => ?h4x8) ?_
        case h4x8 =>
          go_wp2_with fail
          exact hK _ (Below.refl _ _)
        simp only [List.set_cons_zero, List.set_cons_succ]
        refine wpG_pure (i := 9) (v := ?v4x9) rfl rfl (by rfl) (fun w hB hG K hK => ?h4x9) ?_
        case h4x9 =>
          go_wp2_with fail
          exact hK _ (Below.refl _ _)
        simp only [List.set_cons_zero, List.set_cons_succ]
        refine wpG_op (i := 10) (v := ?v4x10) rfl rfl (by rfl) (fun w hB hG K hK => ?h4x10) ?_
        case h4x10 =>
          have hx4 := (hB.cell (p := ⟨b', off + k * 8 + 4, none⟩) (World.block_lt_of_cell? V2 _ hc4)).trans hc4
          have hx5 := (hB.cell (p := ⟨b', off + k * 8 + 5, none⟩) (World.block_lt_of_cell? V2 _ hc5)).trans hc5
          have hx6 := (hB.cell (p := ⟨b', off + k * 8 + 6, none⟩) (World.block_lt_of_cell? V2 _ hc6)).trans hc6
          have hx7 := (hB.cell (p := ⟨b', off + k * 8 + 7, none⟩) (World.block_lt_of_cell? V2 _ hc7)).trans hc7
          have hx4' := hx4
          have hx5' := hx5
          have hx6' := hx6
          have hx7' := hx7
          go_wp2_with fail
          exact hK _ (Below.refl _ _)
        simp only [List.set_cons_zero, List.set_cons_succ]
        refine wpG_pure (i := 11) (v := ?v4x11) rfl rfl (by rfl) (fun w hB hG K hK => ?h4x11) ?_
        case h4x11 =>
          go_wp2_with fail
          refine (HRX.out _).mono ?_
          rintro e wx ⟨rfl, hbx⟩
          exact hK _ hbx
        simp only [List.set_cons_zero, List.set_cons_succ]
        refine wpG_move (i := 12) rfl rfl rfl (by rfl) rfl ?_
        simp only [List.set_cons_zero, List.set_cons_succ]
        refine wpG_pure (i := 13) (v := ?v4x13) rfl rfl (by rfl) (fun w hB hG K hK => ?h4x13) ?_
        case h4x13 =>
          go_wp2_with fail
          exact hK _ (Below.refl _ _)
        simp only [List.set_cons_zero, List.set_cons_succ]
        refine wpG_pure (i := 14) (v := ?v4x14) rfl rfl (by rfl) (fun w hB hG K hK => ?h4x14) ?_
        case h4x14 =>
          go_wp2_with fail
          exact hK _ (Below.refl _ _)
        simp only [List.set_cons_zero, List.set_cons_succ]
        refine wpG_pure (i := 15) (v := ?v4x15) rfl rfl (by rfl) (fun w hB hG K hK => ?h4x15) ?_
        case h4x15 =>
          go_wp2_with fail
          exact hK _ (Below.refl _ _)
        simp only [List.set_cons_zero, List.set_cons_succ]
        refine wpG_assign (i := 16) rfl rfl rfl (by rfl) rfl ?_
        simp only [List.set_cons_zero, List.set_cons_succ]
        refine wpG_assign (i := 17) rfl rfl rfl (by rfl) rfl ?_
        simp only [List.set_cons_zero, List.set_cons_succ]
        refine wpG_assign (i := 18) rfl rfl rfl (by rfl) rfl ?_
        simp only [List.set_cons_zero, List.set_cons_succ]
        refine wpG_nil (fun w4 hb4 hG4 => ?_)
        simp only [List.append_eq, List.cons_append, List.nil_append, List.drop_succ_cons, List.drop_zero, List.drop_nil]
        have O4 := Own.of hG4
        try simp only [List.setIfInBounds_toArray, List.set_cons_zero, List.set_cons_succ] at O4
        have bw4 : Below w.heap.size w w4 := Below.trans (by go_grown) (Below.mono hb4 (by first | omega | (simp; done) | (simp; omega)))
        have zw4 := Below.size hb4
        try simp only [World.size_alloc, World.size_drew, World.size_setCell] at zw4
        have kk4 := Keep.below (Keep.refl (fun b => b < w1.heap.size ∨ WL0.heap.size ≤ b) V2) hb4
        have hwc4 : Below V2.heap.size V2 w4 := Below.trans (by go_grown) (Below.mono hb4 (by first | omega | (simp; done) | (simp; omega)))
        clear c2x0 f2x0 l2x0 l2x0d0 l2x0d1 c2x1 f2x1 l2x1 l2x1d0 l2x1d1 c2x2 f2x2 l2x2 l2x2d0 l2x2d1 c2x3 f2x3 l2x3 l2x3d0 l2x3d1 c2x4 f2x4 l2x4 l2x4d0 l2x4d1 c2x5 f2x5 l2x5 l2x5d0 l2x5d1 c2x6 f2x6 l2x6 l2x6d0 l2x6d1
        have c4x0 := Own.cell O4 0 rfl
        have f4x0 := Own.free O4 0 rfl
        have l4x0 := Own.lt O4 0 rfl
        have l4x0d0 := le_up 0 l4x0
        have l4x0d1 := le_up 1 l4x0
        simp only [upN] at l4x0d0 l4x0d1
        have c4x1 := Own.cell O4 1 rfl
        have f4x1 := Own.free O4 1 rfl
        have l4x1 := Own.lt O4 1 rfl
        have l4x1d0 := le_up 0 l4x1
        have l4x1d1 := le_up 1 l4x1
        simp only [upN] at l4x1d0 l4x1d1
        have c4x2 := Own.cell O4 2 rfl
        have f4x2 := Own.free O4 2 rfl
        have l4x2 := Own.lt O4 2 rfl
        have l4x2d0 := le_up 0 l4x2
        have l4x2d1 := le_up 1 l4x2
        simp only [upN] at l4x2d0 l4x2d1
        have c4x3 := Own.cell O4 3 rfl
        have f4x3 := Own.free O4 3 rfl
        have l4x3 := Own.lt O4 3 rfl
        have l4x3d0 := le_up 0 l4x3
        have l4x3d1 := le_up 1 l4x3
        simp only [upN] at l4x3d0 l4x3d1
        have c4x4 := Own.cell O4 4 rfl
        have f4x4 := Own.free O4 4 rfl
        have l4x4 := Own.lt O4 4 rfl
        have l4x4d0 := le_up 0 l4x4
        have l4x4d1 := le_up 1 l4x4
        simp only [upN] at l4x4d0 l4x4d1
        have c4x5 := Own.cell O4 5 rfl
        have f4x5 := Own.free O4 5 rfl
        have l4x5 := Own.lt O4 5 rfl
        have l4x5d0 := le_up 0 l4x5
        have l4x5d1 := le_up 1 l4x5
        simp only [upN] at l4x5d0 l4x5d1
        have c4x6 := Own.cell O4 6 rfl
        have f4x6 := Own.free O4 6 rfl
        have l4x6 := Own.lt O4 6 rfl
        have l4x6d0 := le_up 0 l4x6
        have l4x6d1 := le_up 1 l4x6
        simp only [upN] at l4x6d0 l4x6d1
        have HO4 := Lib.hid O4
        clear O4 hb4
        go_wp2_with fail
        gi_wp2
        refine ⟨((Keep.setCell (Keep.setCell (Keep.setCell kk4 _ _ (.inl (by first | (intro h; dsimp only at h; omega) | (intro h; omega)))) _ _ (.inl (by first | (intro h; dsimp only at h; omega) | (intro h; omega)))) _ _ (.inl (by first | (intro h; dsimp only at h; omega) | (intro h; omega))))).mono (fun q hq => .inr hq), rfl, ⟨?own0e, ?bel0e, ?dd0e, ?ks0e⟩⟩
        case own0e => dsimp only; rw [hn1, ha1]; refine Own.eqv (Own.set (Own.set (Own.set HO4.out 2 rfl (Ne1.cons (by first | omega | (simp; omega)) (Ne1.cons (by first | omega | (simp; omega)) (Ne1.cons (by first | omega | (simp; omega)) (Ne1.cons (by first | omega | (simp; omega)) (Ne1.cons (by first | omega | (simp; omega)) (Ne1.cons (by first | omega | (simp; omega)) Ne1.nil))))))) 1 rfl (Ne1.cons (by first | omega | (simp; omega)) (Ne1.cons (by first | omega | (simp; omega)) (Ne1.cons (by first | omega | (simp; omega)) (Ne1.cons (by first | omega | (simp; omega)) (Ne1.cons (by first | omega | (simp; omega)) (Ne1.cons (by first | omega | (simp; omega)) Ne1.nil))))))) 0 rfl (Ne1.cons (by first | omega | (simp; omega)) (Ne1.cons (by first | omega | (simp; omega)) (Ne1.cons (by first | omega | (simp; omega)) (Ne1.cons (by first | omega | (simp; omega)) (Ne1.cons (by first | omega | (simp; omega)) (Ne1.cons (by first | omega | (simp; omega)) Ne1.nil))))))) ?_; simp only [List.setIfInBounds_toArray, List.set_cons_zero, List.set_cons_succ]; rfl
        case bel0e => exact (Below.setCell (Below.setCell (Below.setCell (HVB.out.trans (hwc4.mono (by have := HVB.out.size; omega))) (p := ⟨_, 0, none⟩) (by simp; omega) _) (p := ⟨_, 0, none⟩) (by simp; omega) _) (p := ⟨_, 0, none⟩) (by simp; omega) _)
        case ks0e => exact HVK.out.trans (((Keep.setCell (Keep.setCell (Keep.setCell kk4 _ _ (.inl (by first | (intro h; dsimp only at h; omega) | (intro h; omega)))) _ _ (.inl (by first | (intro h; dsimp only at h; omega) | (intro h; omega)))) _ _ (.inl (by first | (intro h; dsimp only at h; omega) | (intro h; omega))))).mono (fun q hq => .inl hq))
        case dd0e => exact fun D h => ((((KeepsOthers.below hwc4).trans (KeepsOthers.setCell _ _ _)).trans (KeepsOthers.setCell _ _ _)).trans (KeepsOthers.setCell _ _ _)).same _ _ (HVD.out D h) rfl
  case hend0 =>
    intro k0 V0 hend hD0
    obtain ⟨hk, hO, hb0, _, hkV0⟩ : k0 ≤ m ∧ EI (fun (k : Nat) => [(w1.heap.size + 1 + 1 + 1, #[.int .i64 (k : Nat)], 3), (w1.heap.size + 1 + 1, #[.int .u64 (aK n xs k)], 25), (w1.heap.size + 1, #[.int .i64 (nK n xs k)], 3), (w1.heap.size, #[.int .i64 0], 3), (w.heap.size + 1 + 1, #[.bool false], 4), (w.heap.size + 1, #[.int .i64 many], 3), (w.heap.size, #[.slice A ln cap], 49)]) w.heap.size w [] (fun k => k < w1.heap.size) w1 k0 V0 := by
      rw [zsK_len] at hend
      rcases hend with ⟨h1, h3⟩ | ⟨h1, h3⟩
      · exact ⟨by omega, h3⟩
      · exact ⟨by omega, h3⟩
    clear hend
    have O5 := hO
    have c5x0 := Own.cell O5 0 rfl
    have f5x0 := Own.free O5 0 rfl
    have l5x0 := Own.lt O5 0 rfl
    have l5x0d0 := le_up 0 l5x0
    have l5x0d1 := le_up 1 l5x0
    simp only [upN] at l5x0d0 l5x0d1
    have c5x1 := Own.cell O5 1 rfl
    have f5x1 := Own.free O5 1 rfl
    have l5x1 := Own.lt O5 1 rfl
    have l5x1d0 := le_up 0 l5x1
    have l5x1d1 := le_up 1 l5x1
    simp only [upN] at l5x1d0 l5x1d1
    have c5x2 := Own.cell O5 2 rfl
    have f5x2 := Own.free O5 2 rfl
    have l5x2 := Own.lt O5 2 rfl
    have l5x2d0 := le_up 0 l5x2
    have l5x2d1 := le_up 1 l5x2
    simp only [upN] at l5x2d0 l5x2d1
    have c5x3 := Own.cell O5 3 rfl
    have f5x3 := Own.free O5 3 rfl
    have l5x3 := Own.lt O5 3 rfl
    have l5x3d0 := le_up 0 l5x3
    have l5x3d1 := le_up 1 l5x3
    simp only [upN] at l5x3d0 l5x3d1
    have c5x4 := Own.cell O5 4 rfl
    have f5x4 := Own.free O5 4 rfl
    have l5x4 := Own.lt O5 4 rfl
    have l5x4d0 := le_up 0 l5x4
    have l5x4d1 := le_up 1 l5x4
    simp only [upN] at l5x4d0 l5x4d1
    have c5x5 := Own.cell O5 5 rfl
    have f5x5 := Own.free O5 5 rfl
    have l5x5 := Own.lt O5 5 rfl
    have l5x5d0 := le_up 0 l5x5
    have l5x5d1 := le_up 1 l5x5
    simp only [upN] at l5x5d0 l5x5d1
    have c5x6 := Own.cell O5 6 rfl
    have f5x6 := Own.free O5 6 rfl
    have l5x6 := Own.lt O5 6 rfl
    have l5x6d0 := le_up 0 l5x6
    have l5x6d1 := le_up 1 l5x6
    simp only [upN] at l5x6d0 l5x6d1
    have HO5 := Lib.hid O5
    clear O5
    have hbV0 := hb0
    clear hb0
    have zV0 : WL0.heap.size < V0.heap.size := (Array.getElem?_eq_some_iff.1 hD0).1
    go_wp2_with fail
    rw [rounds_succ]
    go_wp2_with fail
    refine wp_name fun WL1 hWL1 => ?_
    have zWL1 : WL1.heap.size = V0.heap.size + 4 := by rw [hWL1]; simp
    have hbWL1 : Below w.heap.size w WL1 := by rw [hWL1]; go_grown
    have hkS1 : Keep (fun k => k < w1.heap.size) w1 WL1 := by rw [hWL1]; exact (Keep.alloc (Keep.alloc (Keep.alloc (Keep.alloc hkV0 _) _) _) _)
    have hoL1 := Lib.hid (show Own _ WL1 by rw [hWL1]; exact (Own.new (Own.new (Own.new (Own.new HO5.out (V0.heap.size) rfl) (V0.heap.size + 1) (by simp)) (V0.heap.size + 1 + 1) (by simp)) (V0.heap.size + 1 + 1 + 1) (by simp)))
    have hD0L : WL1.heap[WL0.heap.size]? = some (.deferred (some [])) := by rw [hWL1]; exact (((((KeepsOthers.refl _).trans (KeepsOthers.alloc _ _)).trans (KeepsOthers.alloc _ _)).trans (KeepsOthers.alloc _ _)).trans (KeepsOthers.alloc _ _)).same _ _ hD0 rfl
    clear hWL1
    have hI1 : AnyFrom WL1.heap.size (EI (fun (k : Nat) => [(V0.heap.size + 1 + 1 + 1, #[.int .i64 (k : Nat)], 3), (V0.heap.size + 1 + 1, #[.int .u64 (aK n xs k)], 25), (V0.heap.size + 1, #[.int .i64 (nK n xs k)], 3), (V0.heap.size, #[.int .i64 1], 3), (w1.heap.size + 1 + 1 + 1, #[.int .i64 (k0 : Nat)], 3), (w1.heap.size + 1 + 1, #[.int .u64 (aK n xs k0)], 25), (w1.heap.size + 1, #[.int .i64 (nK n xs k0)], 3), (w1.heap.size, #[.int .i64 0], 3), (w.heap.size + 1 + 1, #[.bool false], 4), (w.heap.size + 1, #[.int .i64 many], 3), (w.heap.size, #[.slice A ln cap], 49)]) w.heap.size w [WL0.heap.size] (fun k => k < w1.heap.size) w1) := EI.any (by simp only [List.mem_cons, List.not_mem_nil, or_false, forall_eq, forall_eq_or_imp]; first | omega | exact fun _ h => h.elim | simp) (by simp only [List.mem_cons, List.not_mem_nil, or_false, forall_eq, forall_eq_or_imp]; first | omega | exact fun _ h => h.elim | simp) (Nat.le_refl _) (by have := hbWL1.size; omega) (fun k hk => by first | omega | (dsimp only at hk; omega))
    refine wp_each_block (w0 := w1) (S := (fun k => k < w1.heap.size)) (xs := zsK n xs m) (encs := encZ) rfl (enters_of Try.func33 (by kernel_rfl) rfl) HSEQ.out (fun k hk => by first | omega | (dsimp only at hk; omega)) hkS1 (fun _ _ => rfl) (fun k V => EI (fun (k : Nat) => [(V0.heap.size + 1 + 1 + 1, #[.int .i64 (k : Nat)], 3), (V0.heap.size + 1 + 1, #[.int .u64 (aK n xs k)], 25), (V0.heap.size + 1, #[.int .i64 (nK n xs k)], 3), (V0.heap.size, #[.int .i64 1], 3), (w1.heap.size + 1 + 1 + 1, #[.int .i64 (k0 : Nat)], 3), (w1.heap.size + 1 + 1, #[.int .u64 (aK n xs k0)], 25), (w1.heap.size + 1, #[.int .i64 (nK n xs k0)], 3), (w1.heap.size, #[.int .i64 0], 3), (w.heap.size + 1 + 1, #[.bool false], 4), (w.heap.size + 1, #[.int .i64 many], 3), (w.heap.size, #[.slice A ln cap], 49)]) w.heap.size w [WL0.heap.size] (fun k => k < w1.heap.size) w1 k V) (fun k V => False) ?hI1 ?hIx1 ?h01 ?round1 ?hend1
    case hI1 => exact hI1
    case hIx1 => exact fun k V V2 row h hg hr => h
    case h01 => exact ⟨hoL1.out, hbWL1, fun D h => (by simp only [List.mem_cons, List.not_mem_nil, or_false] at h; subst h; exact hD0L), hkS1⟩
    case round1 =>
      rintro l' k x V hx hE hl'
      gi_wp2
      refine ⟨Keep.refl _ _, EI (fun (k : Nat) => [(V0.heap.size + 1 + 1 + 1, #[.int .i64 (k : Nat)], 3), (V0.heap.size + 1 + 1, #[.int .u64 (aK n xs k)], 25), (V0.heap.size + 1, #[.int .i64 (nK n xs k)], 3), (V0.heap.size, #[.int .i64 1], 3), (w1.heap.size + 1 + 1 + 1, #[.int .i64 (k0 : Nat)], 3), (w1.heap.size + 1 + 1, #[.int .u64 (aK n xs k0)], 25), (w1.heap.size + 1, #[.int .i64 (nK n xs k0)], 3), (w1.heap.size, #[.int .i64 0], 3), (w.heap.size + 1 + 1, #[.bool false], 4), (w.heap.size + 1, #[.int .i64 many], 3), (w.heap.size, #[.slice A ln cap], 49)]) w.heap.size w [WL0.heap.size] (fun k => k < w1.heap.size) w1 k, fun _ V V2 row h hg hr => hI1.from k V V2 row h hg hr, hE, ?body1⟩
      case body1 =>
        rintro V2 ⟨hO2, hb2, hD2, hK2⟩
        dsimp only at hO2
        have hkm : k < m := by have := (List.getElem?_eq_some_iff.1 hx).1; rw [zsK_len] at this; exact this
        obtain rfl : x = (nK n xs (k + 1), aK n xs (k + 1)) := by rw [zsK_at hkm] at hx; cases hx; rfl
        clear hx
        obtain ⟨y, hy⟩ : ∃ y, xs[k]? = some y := ⟨xs[k]'(by rw [hln]; omega), by simp⟩
        obtain ⟨b', off, rfl, hbl, hcell⟩ := (HX.out V2 hb2).cell (pairsC_at (j := 0) hy (by rfl))
        have hc0 : V2.cell? ⟨b', off + k * 8, none⟩ = some (.int .u64 (L y.1 0)) := by have := hcell (k * 8) _ (pairsC_at (j := 0) hy (by rfl)); simpa [Nat.add_assoc] using this
        have hc1 : V2.cell? ⟨b', off + k * 8 + 1, none⟩ = some (.int .u64 (L y.1 1)) := by have := hcell (k * 8 + 1) _ (pairsC_at (j := 1) hy (by rfl)); simpa [Nat.add_assoc] using this
        have hc2 : V2.cell? ⟨b', off + k * 8 + 2, none⟩ = some (.int .u64 (L y.1 2)) := by have := hcell (k * 8 + 2) _ (pairsC_at (j := 2) hy (by rfl)); simpa [Nat.add_assoc] using this
        have hc3 : V2.cell? ⟨b', off + k * 8 + 3, none⟩ = some (.int .u64 (L y.1 3)) := by have := hcell (k * 8 + 3) _ (pairsC_at (j := 3) hy (by rfl)); simpa [Nat.add_assoc] using this
        have hc4 : V2.cell? ⟨b', off + k * 8 + 4, none⟩ = some (.int .u64 (L y.2 0)) := by have := hcell (k * 8 + 4) _ (pairsC_at (j := 4) hy (by rfl)); simpa [Nat.add_assoc] using this
        have hc5 : V2.cell? ⟨b', off + k * 8 + 5, none⟩ = some (.int .u64 (L y.2 1)) := by have := hcell (k * 8 + 5) _ (pairsC_at (j := 5) hy (by rfl)); simpa [Nat.add_assoc] using this
        have hc6 : V2.cell? ⟨b', off + k * 8 + 6, none⟩ = some (.int .u64 (L y.2 2)) := by have := hcell (k * 8 + 6) _ (pairsC_at (j := 6) hy (by rfl)); simpa [Nat.add_assoc] using this
        have hc7 : V2.cell? ⟨b', off + k * 8 + 7, none⟩ = some (.int .u64 (L y.2 3)) := by have := hcell (k * 8 + 7) _ (pairsC_at (j := 7) hy (by rfl)); simpa [Nat.add_assoc] using this
        clear hcell
        have hkb : k < 100 := by omega
        have d2 : decide ((ln : Int) ≤ k) = false := by simp; omega
        have d2' : decide (ln ≤ k) = false := by simp; omega
        have hRX := fun V => refReach_yes hy (HM.out.2.1 k hkm) V
        have habd := aK_bd n xs k
        have hcbd := reachC_bd (nK n xs k) (atW xs k).1 (atW xs k).2
        have hwr : IntKind.u64.wrap (aK n xs k + reachC (nK n xs k) (atW xs k).1 (atW xs k).2) = aK n xs (k + 1) := by rw [IntWalk.u64_in _ (by omega)]; rfl
        generalize hcK : reachC (nK n xs k) (atW xs k).1 (atW xs k).2 = cK at *
        generalize hn1 : nK n xs (k + 1) = n1 at *
        generalize ha1 : aK n xs (k + 1) = a1 at *
        generalize nK n xs k = nk at *
        generalize aK n xs k = ak at *
        have HRX := Lib.hid hRX
        clear hRX
        have HVB := Lib.hid hb2
        have HVD := Lib.hid hD2
        have HVK := Lib.hid hK2
        clear hD2 hK2 hE habd hcbd hcK
        have O6 := hO2
        have c6x0 := Own.cell O6 0 rfl
        have f6x0 := Own.free O6 0 rfl
        have l6x0 := Own.lt O6 0 rfl
        have l6x0d0 := le_up 0 l6x0
        have l6x0d1 := le_up 1 l6x0
        simp only [upN] at l6x0d0 l6x0d1
        have c6x1 := Own.cell O6 1 rfl
        have f6x1 := Own.free O6 1 rfl
        have l6x1 := Own.lt O6 1 rfl
        have l6x1d0 := le_up 0 l6x1
        have l6x1d1 := le_up 1 l6x1
        simp only [upN] at l6x1d0 l6x1d1
        have c6x2 := Own.cell O6 2 rfl
        have f6x2 := Own.free O6 2 rfl
        have l6x2 := Own.lt O6 2 rfl
        have l6x2d0 := le_up 0 l6x2
        have l6x2d1 := le_up 1 l6x2
        simp only [upN] at l6x2d0 l6x2d1
        have c6x3 := Own.cell O6 3 rfl
        have f6x3 := Own.free O6 3 rfl
        have l6x3 := Own.lt O6 3 rfl
        have l6x3d0 := le_up 0 l6x3
        have l6x3d1 := le_up 1 l6x3
        simp only [upN] at l6x3d0 l6x3d1
        have c6x4 := Own.cell O6 4 rfl
        have f6x4 := Own.free O6 4 rfl
        have l6x4 := Own.lt O6 4 rfl
        have l6x4d0 := le_up 0 l6x4
        have l6x4d1 := le_up 1 l6x4
        simp only [upN] at l6x4d0 l6x4d1
        have c6x5 := Own.cell O6 5 rfl
        have f6x5 := Own.free O6 5 rfl
        have l6x5 := Own.lt O6 5 rfl
        have l6x5d0 := le_up 0 l6x5
        have l6x5d1 := le_up 1 l6x5
        simp only [upN] at l6x5d0 l6x5d1
        have c6x6 := Own.cell O6 6 rfl
        have f6x6 := Own.free O6 6 rfl
        have l6x6 := Own.lt O6 6 rfl
        have l6x6d0 := le_up 0 l6x6
        have l6x6d1 := le_up 1 l6x6
        simp only [upN] at l6x6d0 l6x6d1
        have c6x7 := Own.cell O6 7 rfl
        have f6x7 := Own.free O6 7 rfl
        have l6x7 := Own.lt O6 7 rfl
        have l6x7d0 := le_up 0 l6x7
        have l6x7d1 := le_up 1 l6x7
        simp only [upN] at l6x7d0 l6x7d1
        have c6x8 := Own.cell O6 8 rfl
        have f6x8 := Own.free O6 8 rfl
        have l6x8 := Own.lt O6 8 rfl
        have l6x8d0 := le_up 0 l6x8
        have l6x8d1 := le_up 1 l6x8
        simp only [upN] at l6x8d0 l6x8d1
        have c6x9 := Own.cell O6 9 rfl
        have f6x9 := Own.free O6 9 rfl
        have l6x9 := Own.lt O6 9 rfl
        have l6x9d0 := le_up 0 l6x9
        have l6x9d1 := le_up 1 l6x9
        simp only [upN] at l6x9d0 l6x9d1
        have c6x10 := Own.cell O6 10 rfl
        have f6x10 := Own.free O6 10 rfl
        have l6x10 := Own.lt O6 10 rfl
        have l6x10d0 := le_up 0 l6x10
        have l6x10d1 := le_up 1 l6x10
        simp only [upN] at l6x10d0 l6x10d1
        have HO6 := Lib.hid O6
        clear O6
        gi_wp2
        refine regInG (by kernel_rfl) (fun ⟨_, _, h⟩ => h) V2.heap.size 19 0 0 [(0, 0, 35184372088832, 512), (1, 0, 70368744177664, 16), (2, 0, 140737488355328, 2048), (3, 6, 281474976710656, 211106232532992), (4, 8, 562949953421312, 281474976710656), (5, 16, 1125899906842624, 562949953421312), (6, 0, 2251799813685248, 16), (7, 0, 4503599627370496, 2048), (8, 192, 9007199254740992, 6755399441055744), (9, 256, 18014398509481984, 9007199254740992), (10, 512, 36028797018963968, 18014398509481984), (11, 1057, 72057594037927936, 37189881297895424), (12, 2048, 17592186044416, 72057594037927936), (13, 4096, 144115188075855872, 17592186044416), (14, 4096, 288230376151711744, 17592186044416), (15, 4096, 576460752303423488, 17592186044416), (16, 16383, 16384, 144115188075855872), (17, 98303, 32768, 288230376151711744), (18, 262143, 65536, 576460752303423488)] [(.p 0, 1), (.p 1, 3), (.p 2, 7), (.p 3, 15), (.p 4, 31), (.q 5, 63), (.p 6, 127), (.p 7, 255), (.p 8, 511), (.p 9, 1023), (.q 10, 2047), (.p 11, 4095), (.p 12, 8191), (.p 13, 16383), (.p 14, 32767), (.p 15, 65535), (.p 16, 131071), (.p 17, 262143), (.p 18, 524287)] [] _ (fun p hp => hp) (by first | omega | (simp; done) | (simp; omega)) (by kernel_rfl) (by kernel_rfl) HO6.out ?_
        refine wpG_pure (i := 0) (v := ?v7x0) rfl rfl (by rfl) (fun w hB hG K hK => ?h7x0) ?_
        case h7x0 =>
          have cx := Own.cell hG 2 rfl
          go_wp2_with fail
          exact hK _ (Below.refl _ _)
        simp only [List.set_cons_zero, List.set_cons_succ]
        refine wpG_pure (i := 1) (v := ?v7x1) rfl rfl (by rfl) (fun w hB hG K hK => ?h7x1) ?_
        case h7x1 =>
          have cx := Own.cell hG 10 rfl
          go_wp2_with fail
          exact hK _ (Below.refl _ _)
        simp only [List.set_cons_zero, List.set_cons_succ]
        refine wpG_pure (i := 2) (v := ?v7x2) rfl rfl (by rfl) (fun w hB hG K hK => ?h7x2) ?_
        case h7x2 =>
          have cx := Own.cell hG 0 rfl
          go_wp2_with fail
          exact hK _ (Below.refl _ _)
        simp only [List.set_cons_zero, List.set_cons_succ]
        refine wpG_pure (i := 3) (v := ?v7x3) rfl rfl (by rfl) (fun w hB hG K hK => ?h7x3) ?_
        case h7x3 =>
          go_wp2_with fail
          exact hK _ (Below.refl _ _)
        simp only [List.set_cons_zero, List.set_cons_succ]
        refine wpG_pure (i := 4) (v := ?v7x4) rfl rfl (by rfl) (fun w hB hG K hK => ?h7x4) ?_
        case h7x4 =>
          go_wp2_with fail
          exact hK _ (Below.refl _ _)
        simp only [List.set_cons_zero, List.set_cons_succ]
        refine wpG_op (i := 5) (v := ?v7x5) rfl rfl (by rfl) (fun w hB hG K hK => ?h7x5) ?_
        case h7x5 =>
          have hx0 := (hB.cell (p := ⟨b', off + k * 8, none⟩) (World.block_lt_of_cell? V2 _ hc0)).trans hc0
          have hx1 := (hB.cell (p := ⟨b', off + k * 8 + 1, none⟩) (World.block_lt_of_cell? V2 _ hc1)).trans hc1
          have hx2 := (hB.cell (p := ⟨b', off + k * 8 + 2, none⟩) (World.block_lt_of_cell? V2 _ hc2)).trans hc2
          have hx3 := (hB.cell (p := ⟨b', off + k * 8 + 3, none⟩) (World.block_lt_of_cell? V2 _ hc3)).trans hc3
          go_wp2_with fail
          exact hK _ (Below.refl _ _)
        simp only [List.set_cons_zero, List.set_cons_succ]
        refine wpG_pure (i := 6) (v := ?v7x6) rfl rfl (by rfl) (fun w hB hG K hK => ?h7x6) ?_
        case h7x6 =>
          have cx := Own.cell hG 10 rfl
          go_wp2_with fail
          exact hK _ (Below.refl _ _)
        simp only [List.set_cons_zero, List.set_cons_succ]
        refine wpG_pure (i := 7) (v := ?v7x7) rfl rfl (by rfl) (fun w hB hG K hK => ?h7x7) ?_
        case h7x7 =>
          have cx := Own.cell hG 0 rfl
          go_wp2_with fail
          exact hK _ (Below.refl _ _)
        simp only [List.set_cons_zero, List.set_cons_succ]
        refine wpG_pure (i := 8) (v := ?v7x8) rfl rfl (by rfl) (fun w hB hG K hK => ?h7x8) ?_
        case h7x8 =>
          go_wp2_with fail
          exact hK _ (Below.refl _ _)
        simp only [List.set_cons_zero, List.set_cons_succ]
        refine wpG_pure (i := 9) (v := ?v7x9) rfl rfl (by rfl) (fun w hB hG K hK => ?h7x9) ?_
        case h7x9 =>
          go_wp2_with fail
          exact hK _ (Below.refl _ _)
        simp only [List.set_cons_zero, List.set_cons_succ]
        refine wpG_op (i := 10) (v := ?v7x10) rfl rfl (by rfl) (fun w hB hG K hK => ?h7x10) ?_
        case h7x10 =>
          have hx4 := (hB.cell (p := ⟨b', off + k * 8 + 4, none⟩) (World.block_lt_of_cell? V2 _ hc4)).trans hc4
          have hx5 := (hB.cell (p := ⟨b', off + k * 8 + 5, none⟩) (World.block_lt_of_cell? V2 _ hc5)).trans hc5
          have hx6 := (hB.cell (p := ⟨b', off + k * 8 + 6, none⟩) (World.block_lt_of_cell? V2 _ hc6)).trans hc6
          have hx7 := (hB.cell (p := ⟨b', off + k * 8 + 7, none⟩) (World.block_lt_of_cell? V2 _ hc7)).trans hc7
          have hx4' := hx4
          have hx5' := hx5
          have hx6' := hx6
          have hx7' := hx7
          go_wp2_with fail
          exact hK _ (Below.refl _ _)
        simp only [List.set_cons_zero, List.set_cons_succ]
        refine wpG_pure (i := 11) (v := ?v7x11) rfl rfl (by rfl) (fun w hB hG K hK => ?h7x11) ?_
        case h7x11 =>
          go_wp2_with fail
          refine (HRX.out _).mono ?_
          rintro e wx ⟨rfl, hbx⟩
          exact hK _ hbx
        simp only [List.set_cons_zero, List.set_cons_succ]
        refine wpG_move (i := 12) rfl rfl rfl (by rfl) rfl ?_
        simp only [List.set_cons_zero, List.set_cons_succ]
        refine wpG_pure (i := 13) (v := ?v7x13) rfl rfl (by rfl) (fun w hB hG K hK => ?h7x13) ?_
        case h7x13 =>
          go_wp2_with fail
          exact hK _ (Below.refl _ _)
        simp only [List.set_cons_zero, List.set_cons_succ]
        refine wpG_pure (i := 14) (v := ?v7x14) rfl rfl (by rfl) (fun w hB hG K hK => ?h7x14) ?_
        case h7x14 =>
          go_wp2_with fail
          exact hK _ (Below.refl _ _)
        simp only [List.set_cons_zero, List.set_cons_succ]
        refine wpG_pure (i := 15) (v := ?v7x15) rfl rfl (by rfl) (fun w hB hG K hK => ?h7x15) ?_
        case h7x15 =>
          go_wp2_with fail
          exact hK _ (Below.refl _ _)
        simp only [List.set_cons_zero, List.set_cons_succ]
        refine wpG_assign (i := 16) rfl rfl rfl (by rfl) rfl ?_
        simp only [List.set_cons_zero, List.set_cons_succ]
        refine wpG_assign (i := 17) rfl rfl rfl (by rfl) rfl ?_
        simp only [List.set_cons_zero, List.set_cons_succ]
        refine wpG_assign (i := 18) rfl rfl rfl (by rfl) rfl ?_
        simp only [List.set_cons_zero, List.set_cons_succ]
        refine wpG_nil (fun w7 hb7 hG7 => ?_)
        simp only [List.append_eq, List.cons_append, List.nil_append, List.drop_succ_cons, List.drop_zero, List.drop_nil]
        have O7 := Own.of hG7
        try simp only [List.setIfInBounds_toArray, List.set_cons_zero, List.set_cons_succ] at O7
        have bw7 : Below w.heap.size w w7 := Below.trans (by go_grown) (Below.mono hb7 (by first | omega | (simp; done) | (simp; omega)))
        have zw7 := Below.size hb7
        try simp only [World.size_alloc, World.size_drew, World.size_setCell] at zw7
        have kk7 := Keep.below (Keep.refl (fun b => b < w1.heap.size ∨ WL1.heap.size ≤ b) V2) hb7
        have hwc7 : Below V2.heap.size V2 w7 := Below.trans (by go_grown) (Below.mono hb7 (by first | omega | (simp; done) | (simp; omega)))
        clear c6x0 f6x0 l6x0 l6x0d0 l6x0d1 c6x1 f6x1 l6x1 l6x1d0 l6x1d1 c6x2 f6x2 l6x2 l6x2d0 l6x2d1 c6x3 f6x3 l6x3 l6x3d0 l6x3d1 c6x4 f6x4 l6x4 l6x4d0 l6x4d1 c6x5 f6x5 l6x5 l6x5d0 l6x5d1 c6x6 f6x6 l6x6 l6x6d0 l6x6d1 c6x7 f6x7 l6x7 l6x7d0 l6x7d1 c6x8 f6x8 l6x8 l6x8d0 l6x8d1 c6x9 f6x9 l6x9 l6x9d0 l6x9d1 c6x10 f6x10 l6x10 l6x10d0 l6x10d1
        have c7x0 := Own.cell O7 0 rfl
        have f7x0 := Own.free O7 0 rfl
        have l7x0 := Own.lt O7 0 rfl
        have l7x0d0 := le_up 0 l7x0
        have l7x0d1 := le_up 1 l7x0
        simp only [upN] at l7x0d0 l7x0d1
        have c7x1 := Own.cell O7 1 rfl
        have f7x1 := Own.free O7 1 rfl
        have l7x1 := Own.lt O7 1 rfl
        have l7x1d0 := le_up 0 l7x1
        have l7x1d1 := le_up 1 l7x1
        simp only [upN] at l7x1d0 l7x1d1
        have c7x2 := Own.cell O7 2 rfl
        have f7x2 := Own.free O7 2 rfl
        have l7x2 := Own.lt O7 2 rfl
        have l7x2d0 := le_up 0 l7x2
        have l7x2d1 := le_up 1 l7x2
        simp only [upN] at l7x2d0 l7x2d1
        have c7x3 := Own.cell O7 3 rfl
        have f7x3 := Own.free O7 3 rfl
        have l7x3 := Own.lt O7 3 rfl
        have l7x3d0 := le_up 0 l7x3
        have l7x3d1 := le_up 1 l7x3
        simp only [upN] at l7x3d0 l7x3d1
        have c7x4 := Own.cell O7 4 rfl
        have f7x4 := Own.free O7 4 rfl
        have l7x4 := Own.lt O7 4 rfl
        have l7x4d0 := le_up 0 l7x4
        have l7x4d1 := le_up 1 l7x4
        simp only [upN] at l7x4d0 l7x4d1
        have c7x5 := Own.cell O7 5 rfl
        have f7x5 := Own.free O7 5 rfl
        have l7x5 := Own.lt O7 5 rfl
        have l7x5d0 := le_up 0 l7x5
        have l7x5d1 := le_up 1 l7x5
        simp only [upN] at l7x5d0 l7x5d1
        have c7x6 := Own.cell O7 6 rfl
        have f7x6 := Own.free O7 6 rfl
        have l7x6 := Own.lt O7 6 rfl
        have l7x6d0 := le_up 0 l7x6
        have l7x6d1 := le_up 1 l7x6
        simp only [upN] at l7x6d0 l7x6d1
        have c7x7 := Own.cell O7 7 rfl
        have f7x7 := Own.free O7 7 rfl
        have l7x7 := Own.lt O7 7 rfl
        have l7x7d0 := le_up 0 l7x7
        have l7x7d1 := le_up 1 l7x7
        simp only [upN] at l7x7d0 l7x7d1
        have c7x8 := Own.cell O7 8 rfl
        have f7x8 := Own.free O7 8 rfl
        have l7x8 := Own.lt O7 8 rfl
        have l7x8d0 := le_up 0 l7x8
        have l7x8d1 := le_up 1 l7x8
        simp only [upN] at l7x8d0 l7x8d1
        have c7x9 := Own.cell O7 9 rfl
        have f7x9 := Own.free O7 9 rfl
        have l7x9 := Own.lt O7 9 rfl
        have l7x9d0 := le_up 0 l7x9
        have l7x9d1 := le_up 1 l7x9
        simp only [upN] at l7x9d0 l7x9d1
        have c7x10 := Own.cell O7 10 rfl
        have f7x10 := Own.free O7 10 rfl
        have l7x10 := Own.lt O7 10 rfl
        have l7x10d0 := le_up 0 l7x10
        have l7x10d1 := le_up 1 l7x10
        simp only [upN] at l7x10d0 l7x10d1
        have HO7 := Lib.hid O7
        clear O7 hb7
        go_wp2_with fail
        gi_wp2
        refine ⟨(Keep.setCell (Keep.setCell (Keep.setCell kk7 _ _ (.inl (by first | (intro h; dsimp only at h; omega) | (intro h; omega)))) _ _ (.inl (by first | (intro h; dsimp only at h; omega) | (intro h; omega)))) _ _ (.inl (by first | (intro h; dsimp only at h; omega) | (intro h; omega)))), ⟨?own1n, ?bel1n, ?dd1n, ?ks1n⟩⟩
        case own1n => dsimp only; rw [hn1, ha1]; refine Own.eqv (Own.set (Own.set (Own.set HO7.out 2 rfl (Ne1.cons (by first | omega | (simp; omega)) (Ne1.cons (by first | omega | (simp; omega)) (Ne1.cons (by first | omega | (simp; omega)) (Ne1.cons (by first | omega | (simp; omega)) (Ne1.cons (by first | omega | (simp; omega)) (Ne1.cons (by first | omega | (simp; omega)) (Ne1.cons (by first | omega | (simp; omega)) (Ne1.cons (by first | omega | (simp; omega)) (Ne1.cons (by first | omega | (simp; omega)) (Ne1.cons (by first | omega | (simp; omega)) Ne1.nil))))))))))) 1 rfl (Ne1.cons (by first | omega | (simp; omega)) (Ne1.cons (by first | omega | (simp; omega)) (Ne1.cons (by first | omega | (simp; omega)) (Ne1.cons (by first | omega | (simp; omega)) (Ne1.cons (by first | omega | (simp; omega)) (Ne1.cons (by first | omega | (simp; omega)) (Ne1.cons (by first | omega | (simp; omega)) (Ne1.cons (by first | omega | (simp; omega)) (Ne1.cons (by first | omega | (simp; omega)) (Ne1.cons (by first | omega | (simp; omega)) Ne1.nil))))))))))) 0 rfl (Ne1.cons (by first | omega | (simp; omega)) (Ne1.cons (by first | omega | (simp; omega)) (Ne1.cons (by first | omega | (simp; omega)) (Ne1.cons (by first | omega | (simp; omega)) (Ne1.cons (by first | omega | (simp; omega)) (Ne1.cons (by first | omega | (simp; omega)) (Ne1.cons (by first | omega | (simp; omega)) (Ne1.cons (by first | omega | (simp; omega)) (Ne1.cons (by first | omega | (simp; omega)) (Ne1.cons (by first | omega | (simp; omega)) Ne1.nil))))))))))) ?_; simp only [List.setIfInBounds_toArray, List.set_cons_zero, List.set_cons_succ]; rfl
        case bel1n => exact (Below.setCell (Below.setCell (Below.setCell (HVB.out.trans (hwc7.mono (by have := HVB.out.size; omega))) (p := ⟨_, 0, none⟩) (by simp; omega) _) (p := ⟨_, 0, none⟩) (by simp; omega) _) (p := ⟨_, 0, none⟩) (by simp; omega) _)
        case ks1n => exact HVK.out.trans (((Keep.setCell (Keep.setCell (Keep.setCell kk7 _ _ (.inl (by first | (intro h; dsimp only at h; omega) | (intro h; omega)))) _ _ (.inl (by first | (intro h; dsimp only at h; omega) | (intro h; omega)))) _ _ (.inl (by first | (intro h; dsimp only at h; omega) | (intro h; omega))))).mono (fun q hq => .inl hq))
        case dd1n => exact fun D h => ((((KeepsOthers.below hwc7).trans (KeepsOthers.setCell _ _ _)).trans (KeepsOthers.setCell _ _ _)).trans (KeepsOthers.setCell _ _ _)).same _ _ (HVD.out D h) rfl
    case hend1 =>
      intro k1 V1 hend hD1
      obtain ⟨hk, hO, hb0, hDD, hkV1⟩ : k1 = m ∧ EI (fun (k : Nat) => [(V0.heap.size + 1 + 1 + 1, #[.int .i64 (k : Nat)], 3), (V0.heap.size + 1 + 1, #[.int .u64 (aK n xs k)], 25), (V0.heap.size + 1, #[.int .i64 (nK n xs k)], 3), (V0.heap.size, #[.int .i64 1], 3), (w1.heap.size + 1 + 1 + 1, #[.int .i64 (k0 : Nat)], 3), (w1.heap.size + 1 + 1, #[.int .u64 (aK n xs k0)], 25), (w1.heap.size + 1, #[.int .i64 (nK n xs k0)], 3), (w1.heap.size, #[.int .i64 0], 3), (w.heap.size + 1 + 1, #[.bool false], 4), (w.heap.size + 1, #[.int .i64 many], 3), (w.heap.size, #[.slice A ln cap], 49)]) w.heap.size w [WL0.heap.size] (fun k => k < w1.heap.size) w1 k1 V1 := by
        rw [zsK_len] at hend
        rcases hend with ⟨h1, h3⟩ | ⟨h1, h3⟩
        · exact ⟨by omega, h3⟩
        · exact h3.elim
      subst hk
      replace hD0 := hDD _ (List.mem_singleton.2 rfl)
      clear hDD
      clear hend
      have O8 := hO
      have c8x0 := Own.cell O8 0 rfl
      have f8x0 := Own.free O8 0 rfl
      have l8x0 := Own.lt O8 0 rfl
      have l8x0d0 := le_up 0 l8x0
      have l8x0d1 := le_up 1 l8x0
      simp only [upN] at l8x0d0 l8x0d1
      have c8x1 := Own.cell O8 1 rfl
      have f8x1 := Own.free O8 1 rfl
      have l8x1 := Own.lt O8 1 rfl
      have l8x1d0 := le_up 0 l8x1
      have l8x1d1 := le_up 1 l8x1
      simp only [upN] at l8x1d0 l8x1d1
      have c8x2 := Own.cell O8 2 rfl
      have f8x2 := Own.free O8 2 rfl
      have l8x2 := Own.lt O8 2 rfl
      have l8x2d0 := le_up 0 l8x2
      have l8x2d1 := le_up 1 l8x2
      simp only [upN] at l8x2d0 l8x2d1
      have c8x3 := Own.cell O8 3 rfl
      have f8x3 := Own.free O8 3 rfl
      have l8x3 := Own.lt O8 3 rfl
      have l8x3d0 := le_up 0 l8x3
      have l8x3d1 := le_up 1 l8x3
      simp only [upN] at l8x3d0 l8x3d1
      have c8x4 := Own.cell O8 4 rfl
      have f8x4 := Own.free O8 4 rfl
      have l8x4 := Own.lt O8 4 rfl
      have l8x4d0 := le_up 0 l8x4
      have l8x4d1 := le_up 1 l8x4
      simp only [upN] at l8x4d0 l8x4d1
      have c8x5 := Own.cell O8 5 rfl
      have f8x5 := Own.free O8 5 rfl
      have l8x5 := Own.lt O8 5 rfl
      have l8x5d0 := le_up 0 l8x5
      have l8x5d1 := le_up 1 l8x5
      simp only [upN] at l8x5d0 l8x5d1
      have c8x6 := Own.cell O8 6 rfl
      have f8x6 := Own.free O8 6 rfl
      have l8x6 := Own.lt O8 6 rfl
      have l8x6d0 := le_up 0 l8x6
      have l8x6d1 := le_up 1 l8x6
      simp only [upN] at l8x6d0 l8x6d1
      have c8x7 := Own.cell O8 7 rfl
      have f8x7 := Own.free O8 7 rfl
      have l8x7 := Own.lt O8 7 rfl
      have l8x7d0 := le_up 0 l8x7
      have l8x7d1 := le_up 1 l8x7
      simp only [upN] at l8x7d0 l8x7d1
      have c8x8 := Own.cell O8 8 rfl
      have f8x8 := Own.free O8 8 rfl
      have l8x8 := Own.lt O8 8 rfl
      have l8x8d0 := le_up 0 l8x8
      have l8x8d1 := le_up 1 l8x8
      simp only [upN] at l8x8d0 l8x8d1
      have c8x9 := Own.cell O8 9 rfl
      have f8x9 := Own.free O8 9 rfl
      have l8x9 := Own.lt O8 9 rfl
      have l8x9d0 := le_up 0 l8x9
      have l8x9d1 := le_up 1 l8x9
      simp only [upN] at l8x9d0 l8x9d1
      have c8x10 := Own.cell O8 10 rfl
      have f8x10 := Own.free O8 10 rfl
      have l8x10 := Own.lt O8 10 rfl
      have l8x10d0 := le_up 0 l8x10
      have l8x10d1 := le_up 1 l8x10
      simp only [upN] at l8x10d0 l8x10d1
      have HO8 := Lib.hid O8
      clear O8
      have hbV1 := hb0
      clear hb0
      have zV1 : WL1.heap.size < V1.heap.size := (Array.getElem?_eq_some_iff.1 hD1).1
      have hk1b : k1 ≤ 12 := by omega
      have d4 : decide ((k1 : Int) < ln) = true := by simp; omega
      have d4' : decide ((ln : Int) ≤ k1) = false := by simp; omega
      obtain ⟨y, hy⟩ : ∃ y, xs[k1]? = some y := ⟨xs[k1]'(by rw [hln]; omega), by simp⟩
      have hne := HM.out.2.2 (by omega)
      have HN1 := Lib.hid (fun V => reach_none hy hne V)
      have HN2 := Lib.hid (fun V => refReach_none hy hne V)
      have d5 : decide (eK n xs k1 = 0) = false := by simp [hne]
      obtain ⟨b', off, rfl, hbl, hcell⟩ := (HX.out V1 hbV1).cell (pairsC_at (j := 0) hy (by rfl))
      have hc0 : V1.cell? ⟨b', off + k1 * 8, none⟩ = some (.int .u64 (L y.1 0)) := by have := hcell (k1 * 8) _ (pairsC_at (j := 0) hy (by rfl)); simpa [Nat.add_assoc] using this
      have hc1 : V1.cell? ⟨b', off + k1 * 8 + 1, none⟩ = some (.int .u64 (L y.1 1)) := by have := hcell (k1 * 8 + 1) _ (pairsC_at (j := 1) hy (by rfl)); simpa [Nat.add_assoc] using this
      have hc2 : V1.cell? ⟨b', off + k1 * 8 + 2, none⟩ = some (.int .u64 (L y.1 2)) := by have := hcell (k1 * 8 + 2) _ (pairsC_at (j := 2) hy (by rfl)); simpa [Nat.add_assoc] using this
      have hc3 : V1.cell? ⟨b', off + k1 * 8 + 3, none⟩ = some (.int .u64 (L y.1 3)) := by have := hcell (k1 * 8 + 3) _ (pairsC_at (j := 3) hy (by rfl)); simpa [Nat.add_assoc] using this
      have hc4 : V1.cell? ⟨b', off + k1 * 8 + 4, none⟩ = some (.int .u64 (L y.2 0)) := by have := hcell (k1 * 8 + 4) _ (pairsC_at (j := 4) hy (by rfl)); simpa [Nat.add_assoc] using this
      have hc5 : V1.cell? ⟨b', off + k1 * 8 + 5, none⟩ = some (.int .u64 (L y.2 1)) := by have := hcell (k1 * 8 + 5) _ (pairsC_at (j := 5) hy (by rfl)); simpa [Nat.add_assoc] using this
      have hc6 : V1.cell? ⟨b', off + k1 * 8 + 6, none⟩ = some (.int .u64 (L y.2 2)) := by have := hcell (k1 * 8 + 6) _ (pairsC_at (j := 6) hy (by rfl)); simpa [Nat.add_assoc] using this
      have hc7 : V1.cell? ⟨b', off + k1 * 8 + 7, none⟩ = some (.int .u64 (L y.2 3)) := by have := hcell (k1 * 8 + 7) _ (pairsC_at (j := 7) hy (by rfl)); simpa [Nat.add_assoc] using this
      clear hcell
      generalize eK n xs k1 = eN at *
      go_wp2_with fail
      refine wp_region_grow V1.heap.size 19 0 0 [(0, 0, 19807040628566084398385987584, 512), (1, 0, 39614081257132168796771975168, 16), (2, 0, 79228162514264337593543950336, 2048), (3, 6, 158456325028528675187087900672, 118842243771396506390315925504), (4, 8, 316912650057057350374175801344, 158456325028528675187087900672), (5, 16, 633825300114114700748351602688, 316912650057057350374175801344), (6, 0, 1267650600228229401496703205376, 16), (7, 0, 2535301200456458802993406410752, 2048), (8, 192, 5070602400912917605986812821504, 3802951800684688204490109616128), (9, 256, 10141204801825835211973625643008, 5070602400912917605986812821504), (10, 512, 20282409603651670423947251286016, 10141204801825835211973625643008), (11, 1057, 40564819207303340847894502572032, 20936041944394351209093988876288), (12, 2048, 9903520314283042199192993792, 40564819207303340847894502572032), (13, 4096, 81129638414606681695789005144064, 9903520314283042199192993792), (14, 4096, 162259276829213363391578010288128, 9903520314283042199192993792), (15, 4096, 324518553658426726783156020576256, 9903520314283042199192993792), (16, 16383, 131072, 81129638414606681695789005144064), (17, 98303, 262144, 162259276829213363391578010288128), (18, 262143, 524288, 324518553658426726783156020576256)] [(.p 0, 1), (.p 1, 3), (.p 2, 7), (.p 3, 15), (.p 4, 31), (.q 5, 63), (.p 6, 127), (.p 7, 255), (.p 8, 511), (.p 9, 1023), (.q 10, 2047), (.p 11, 4095), (.p 12, 8191), (.p 13, 16383), (.p 14, 32767), (.p 15, 65535), (.p 16, 131071), (.p 17, 262143), (.p 18, 524287)] [] _ (fun p hp => hp) (by first | omega | (simp; done) | (simp; omega)) (by kernel_rfl) (by kernel_rfl) HO8.out ?_
      refine wpG_pure (i := 0) (v := ?v9x0) rfl rfl (by rfl) (fun w hB hG K hK => ?h9x0) ?_
      case h9x0 =>
        have cx := Own.cell hG 2 rfl
        go_wp2_with fail
        exact hK _ (Below.refl _ _)
      simp only [List.set_cons_zero, List.set_cons_succ]
      refine wpG_pure (i := 1) (v := ?v9x1) rfl rfl (by rfl) (fun w hB hG K hK => ?h9x1) ?_
      case h9x1 =>
        have cx := Own.cell hG 10 rfl
        go_wp2_with fail
        exact hK _ (Below.refl _ _)
      simp only [List.set_cons_zero, List.set_cons_succ]
      refine wpG_pure (i := 2) (v := ?v9x2) rfl rfl (by rfl) (fun w hB hG K hK => ?h9x2) ?_
      case h9x2 =>
        have cx := Own.cell hG 0 rfl
        go_wp2_with fail
        exact hK _ (Below.refl _ _)
      simp only [List.set_cons_zero, List.set_cons_succ]
      refine wpG_pure (i := 3) (v := ?v9x3) rfl rfl (by rfl) (fun w hB hG K hK => ?h9x3) ?_
      case h9x3 =>
        go_wp2_with fail
        exact hK _ (Below.refl _ _)
      simp only [List.set_cons_zero, List.set_cons_succ]
      refine wpG_pure (i := 4) (v := ?v9x4) rfl rfl (by rfl) (fun w hB hG K hK => ?h9x4) ?_
      case h9x4 =>
        go_wp2_with fail
        exact hK _ (Below.refl _ _)
      simp only [List.set_cons_zero, List.set_cons_succ]
      refine wpG_op (i := 5) (v := ?v9x5) rfl rfl (by rfl) (fun w hB hG K hK => ?h9x5) ?_
      case h9x5 =>
        have hx0 := (hB.cell (p := ⟨b', off + k1 * 8, none⟩) (World.block_lt_of_cell? V1 _ hc0)).trans hc0
        have hx1 := (hB.cell (p := ⟨b', off + k1 * 8 + 1, none⟩) (World.block_lt_of_cell? V1 _ hc1)).trans hc1
        have hx2 := (hB.cell (p := ⟨b', off + k1 * 8 + 2, none⟩) (World.block_lt_of_cell? V1 _ hc2)).trans hc2
        have hx3 := (hB.cell (p := ⟨b', off + k1 * 8 + 3, none⟩) (World.block_lt_of_cell? V1 _ hc3)).trans hc3
        go_wp2_with fail
        exact hK _ (Below.refl _ _)
      simp only [List.set_cons_zero, List.set_cons_succ]
      refine wpG_pure (i := 6) (v := ?v9x6) rfl rfl (by rfl) (fun w hB hG K hK => ?h9x6) ?_
      case h9x6 =>
        have cx := Own.cell hG 10 rfl
        go_wp2_with fail
        exact hK _ (Below.refl _ _)
      simp only [List.set_cons_zero, List.set_cons_succ]
      refine wpG_pure (i := 7) (v := ?v9x7) rfl rfl (by rfl) (fun w hB hG K hK => ?h9x7) ?_
      case h9x7 =>
        have cx := Own.cell hG 0 rfl
        go_wp2_with fail
        exact hK _ (Below.refl _ _)
      simp only [List.set_cons_zero, List.set_cons_succ]
      refine wpG_pure (i := 8) (v := ?v9x8) rfl rfl (by rfl) (fun w hB hG K hK => ?h9x8) ?_
      case h9x8 =>
        go_wp2_with fail
        exact hK _ (Below.refl _ _)
      simp only [List.set_cons_zero, List.set_cons_succ]
      refine wpG_pure (i := 9) (v := ?v9x9) rfl rfl (by rfl) (fun w hB hG K hK => ?h9x9) ?_
      case h9x9 =>
        go_wp2_with fail
        exact hK _ (Below.refl _ _)
      simp only [List.set_cons_zero, List.set_cons_succ]
      refine wpG_op (i := 10) (v := ?v9x10) rfl rfl (by rfl) (fun w hB hG K hK => ?h9x10) ?_
      case h9x10 =>
        have hx4 := (hB.cell (p := ⟨b', off + k1 * 8 + 4, none⟩) (World.block_lt_of_cell? V1 _ hc4)).trans hc4
        have hx5 := (hB.cell (p := ⟨b', off + k1 * 8 + 5, none⟩) (World.block_lt_of_cell? V1 _ hc5)).trans hc5
        have hx6 := (hB.cell (p := ⟨b', off + k1 * 8 + 6, none⟩) (World.block_lt_of_cell? V1 _ hc6)).trans hc6
        have hx7 := (hB.cell (p := ⟨b', off + k1 * 8 + 7, none⟩) (World.block_lt_of_cell? V1 _ hc7)).trans hc7
        have hx4' := hx4
        have hx5' := hx5
        have hx6' := hx6
        have hx7' := hx7
        go_wp2_with fail
        exact hK _ (Below.refl _ _)
      simp only [List.set_cons_zero, List.set_cons_succ]
      refine wpG_pure (i := 11) (v := ?v9x11) rfl rfl (by rfl) (fun w hB hG K hK => ?h9x11) ?_
      case h9x11 =>
        go_wp2_with fail
        refine (HN1.out _).mono ?_
        rintro e wx ⟨rfl, hbx⟩
        exact hK _ hbx
      simp only [List.set_cons_zero, List.set_cons_succ]
      refine wpG_move (i := 12) rfl rfl rfl (by rfl) rfl ?_
      simp only [List.set_cons_zero, List.set_cons_succ]
      refine wpG_pure (i := 13) (v := ?v9x13) rfl rfl (by rfl) (fun w hB hG K hK => ?h9x13) ?_
      case h9x13 =>
        go_wp2_with fail
        exact hK _ (Below.refl _ _)
      simp only [List.set_cons_zero, List.set_cons_succ]
      refine wpG_pure (i := 14) (v := ?v9x14) rfl rfl (by rfl) (fun w hB hG K hK => ?h9x14) ?_
      case h9x14 =>
        go_wp2_with fail
        exact hK _ (Below.refl _ _)
      simp only [List.set_cons_zero, List.set_cons_succ]
      refine wpG_pure (i := 15) (v := ?v9x15) rfl rfl (by rfl) (fun w hB hG K hK => ?h9x15) ?_
      case h9x15 =>
        go_wp2_with fail
        exact hK _ (Below.refl _ _)
      simp only [List.set_cons_zero, List.set_cons_succ]
      refine wpG_assign (i := 16) rfl rfl rfl (by rfl) rfl ?_
      simp only [List.set_cons_zero, List.set_cons_succ]
      refine wpG_assign (i := 17) rfl rfl rfl (by rfl) rfl ?_
      simp only [List.set_cons_zero, List.set_cons_succ]
      refine wpG_assign (i := 18) rfl rfl rfl (by rfl) rfl ?_
      simp only [List.set_cons_zero, List.set_cons_succ]
      refine wpG_nil (fun w9 hb9 hG9 => ?_)
      simp only [List.append_eq, List.cons_append, List.nil_append, List.drop_succ_cons, List.drop_zero, List.drop_nil]
      have O9 := Own.of hG9
      try simp only [List.setIfInBounds_toArray, List.set_cons_zero, List.set_cons_succ] at O9
      have bw9 : Below w.heap.size w w9 := Below.trans (by go_grown) (Below.mono hb9 (by first | omega | (simp; done) | (simp; omega)))
      have zw9 := Below.size hb9
      try simp only [World.size_alloc, World.size_drew, World.size_setCell] at zw9
      replace hD0 := ((KeepsOthers.refl _).trans (KeepsOthers.below hb9)).same _ _ hD0 rfl
      replace hD1 := ((KeepsOthers.refl _).trans (KeepsOthers.below hb9)).same _ _ hD1 rfl
      have kk9 := Keep.below hkV1 hb9
      have hwc9 : Below V1.heap.size V1 w9 := Below.trans (by go_grown) (Below.mono hb9 (by first | omega | (simp; done) | (simp; omega)))
      clear c8x0 f8x0 l8x0 l8x0d0 l8x0d1 c8x1 f8x1 l8x1 l8x1d0 l8x1d1 c8x2 f8x2 l8x2 l8x2d0 l8x2d1 c8x3 f8x3 l8x3 l8x3d0 l8x3d1 c8x4 f8x4 l8x4 l8x4d0 l8x4d1 c8x5 f8x5 l8x5 l8x5d0 l8x5d1 c8x6 f8x6 l8x6 l8x6d0 l8x6d1 c8x7 f8x7 l8x7 l8x7d0 l8x7d1 c8x8 f8x8 l8x8 l8x8d0 l8x8d1 c8x9 f8x9 l8x9 l8x9d0 l8x9d1 c8x10 f8x10 l8x10 l8x10d0 l8x10d1
      have c9x0 := Own.cell O9 0 rfl
      have f9x0 := Own.free O9 0 rfl
      have l9x0 := Own.lt O9 0 rfl
      have l9x0d0 := le_up 0 l9x0
      have l9x0d1 := le_up 1 l9x0
      simp only [upN] at l9x0d0 l9x0d1
      have c9x1 := Own.cell O9 1 rfl
      have f9x1 := Own.free O9 1 rfl
      have l9x1 := Own.lt O9 1 rfl
      have l9x1d0 := le_up 0 l9x1
      have l9x1d1 := le_up 1 l9x1
      simp only [upN] at l9x1d0 l9x1d1
      have c9x2 := Own.cell O9 2 rfl
      have f9x2 := Own.free O9 2 rfl
      have l9x2 := Own.lt O9 2 rfl
      have l9x2d0 := le_up 0 l9x2
      have l9x2d1 := le_up 1 l9x2
      simp only [upN] at l9x2d0 l9x2d1
      have c9x3 := Own.cell O9 3 rfl
      have f9x3 := Own.free O9 3 rfl
      have l9x3 := Own.lt O9 3 rfl
      have l9x3d0 := le_up 0 l9x3
      have l9x3d1 := le_up 1 l9x3
      simp only [upN] at l9x3d0 l9x3d1
      have c9x4 := Own.cell O9 4 rfl
      have f9x4 := Own.free O9 4 rfl
      have l9x4 := Own.lt O9 4 rfl
      have l9x4d0 := le_up 0 l9x4
      have l9x4d1 := le_up 1 l9x4
      simp only [upN] at l9x4d0 l9x4d1
      have c9x5 := Own.cell O9 5 rfl
      have f9x5 := Own.free O9 5 rfl
      have l9x5 := Own.lt O9 5 rfl
      have l9x5d0 := le_up 0 l9x5
      have l9x5d1 := le_up 1 l9x5
      simp only [upN] at l9x5d0 l9x5d1
      have c9x6 := Own.cell O9 6 rfl
      have f9x6 := Own.free O9 6 rfl
      have l9x6 := Own.lt O9 6 rfl
      have l9x6d0 := le_up 0 l9x6
      have l9x6d1 := le_up 1 l9x6
      simp only [upN] at l9x6d0 l9x6d1
      have c9x7 := Own.cell O9 7 rfl
      have f9x7 := Own.free O9 7 rfl
      have l9x7 := Own.lt O9 7 rfl
      have l9x7d0 := le_up 0 l9x7
      have l9x7d1 := le_up 1 l9x7
      simp only [upN] at l9x7d0 l9x7d1
      have c9x8 := Own.cell O9 8 rfl
      have f9x8 := Own.free O9 8 rfl
      have l9x8 := Own.lt O9 8 rfl
      have l9x8d0 := le_up 0 l9x8
      have l9x8d1 := le_up 1 l9x8
      simp only [upN] at l9x8d0 l9x8d1
      have c9x9 := Own.cell O9 9 rfl
      have f9x9 := Own.free O9 9 rfl
      have l9x9 := Own.lt O9 9 rfl
      have l9x9d0 := le_up 0 l9x9
      have l9x9d1 := le_up 1 l9x9
      simp only [upN] at l9x9d0 l9x9d1
      have c9x10 := Own.cell O9 10 rfl
      have f9x10 := Own.free O9 10 rfl
      have l9x10 := Own.lt O9 10 rfl
      have l9x10d0 := le_up 0 l9x10
      have l9x10d1 := le_up 1 l9x10
      simp only [upN] at l9x10d0 l9x10d1
      have HO9 := Lib.hid O9
      clear O9 hb9
      replace hc0 := (hwc9.cell (p := ⟨b', off + k1 * 8, none⟩) (World.block_lt_of_cell? V1 _ hc0)).trans hc0
      replace hc1 := (hwc9.cell (p := ⟨b', off + k1 * 8 + 1, none⟩) (World.block_lt_of_cell? V1 _ hc1)).trans hc1
      replace hc2 := (hwc9.cell (p := ⟨b', off + k1 * 8 + 2, none⟩) (World.block_lt_of_cell? V1 _ hc2)).trans hc2
      replace hc3 := (hwc9.cell (p := ⟨b', off + k1 * 8 + 3, none⟩) (World.block_lt_of_cell? V1 _ hc3)).trans hc3
      replace hc4 := (hwc9.cell (p := ⟨b', off + k1 * 8 + 4, none⟩) (World.block_lt_of_cell? V1 _ hc4)).trans hc4
      replace hc5 := (hwc9.cell (p := ⟨b', off + k1 * 8 + 5, none⟩) (World.block_lt_of_cell? V1 _ hc5)).trans hc5
      replace hc6 := (hwc9.cell (p := ⟨b', off + k1 * 8 + 6, none⟩) (World.block_lt_of_cell? V1 _ hc6)).trans hc6
      replace hc7 := (hwc9.cell (p := ⟨b', off + k1 * 8 + 7, none⟩) (World.block_lt_of_cell? V1 _ hc7)).trans hc7
      go_wp2_with fail
      refine wp_region_grow w9.heap.size 19 0 0 [(0, 0, 1298074214633706907132624082305024, 512), (1, 0, 2596148429267413814265248164610048, 16), (2, 0, 5192296858534827628530496329220096, 2048), (3, 6, 10384593717069655257060992658440192, 7788445287802241442795744493830144), (4, 8, 20769187434139310514121985316880384, 10384593717069655257060992658440192), (5, 16, 41538374868278621028243970633760768, 20769187434139310514121985316880384), (6, 0, 83076749736557242056487941267521536, 16), (7, 0, 166153499473114484112975882535043072, 2048), (8, 192, 332306998946228968225951765070086144, 249230249209671726169463823802564608), (9, 256, 664613997892457936451903530140172288, 332306998946228968225951765070086144), (10, 512, 1329227995784915872903807060280344576, 664613997892457936451903530140172288), (11, 1057, 2658455991569831745807614120560689152, 1372064444867828200839183654996410368), (12, 2048, 649037107316853453566312041152512, 2658455991569831745807614120560689152), (13, 4096, 5316911983139663491615228241121378304, 649037107316853453566312041152512), (14, 4096, 10633823966279326983230456482242756608, 649037107316853453566312041152512), (15, 4096, 21267647932558653966460912964485513216, 649037107316853453566312041152512), (16, 16383, 1048576, 5316911983139663491615228241121378304), (17, 98303, 2097152, 10633823966279326983230456482242756608), (18, 262143, 4194304, 21267647932558653966460912964485513216)] [(.p 0, 1), (.p 1, 3), (.p 2, 7), (.p 3, 15), (.p 4, 31), (.q 5, 63), (.p 6, 127), (.p 7, 255), (.p 8, 511), (.p 9, 1023), (.q 10, 2047), (.p 11, 4095), (.p 12, 8191), (.p 13, 16383), (.p 14, 32767), (.p 15, 65535), (.p 16, 131071), (.p 17, 262143), (.p 18, 524287)] [] _ (fun p hp => hp) (by first | omega | (simp; done) | (simp; omega)) (by kernel_rfl) (by kernel_rfl) HO9.out ?_
      refine wpG_pure (i := 0) (v := ?v10x0) rfl rfl (by rfl) (fun w hB hG K hK => ?h10x0) ?_
      case h10x0 =>
        have cx := Own.cell hG 2 rfl
        go_wp2_with fail
        exact hK _ (Below.refl _ _)
      simp only [List.set_cons_zero, List.set_cons_succ]
      refine wpG_pure (i := 1) (v := ?v10x1) rfl rfl (by rfl) (fun w hB hG K hK => ?h10x1) ?_
      case h10x1 =>
        have cx := Own.cell hG 10 rfl
        go_wp2_with fail
        exact hK _ (Below.refl _ _)
      simp only [List.set_cons_zero, List.set_cons_succ]
      refine wpG_pure (i := 2) (v := ?v10x2) rfl rfl (by rfl) (fun w hB hG K hK => ?h10x2) ?_
      case h10x2 =>
        have cx := Own.cell hG 0 rfl
        go_wp2_with fail
        exact hK _ (Below.refl _ _)
      simp only [List.set_cons_zero, List.set_cons_succ]
      refine wpG_pure (i := 3) (v := ?v10x3) rfl rfl (by rfl) (fun w hB hG K hK => ?h10x3) ?_
      case h10x3 =>
        go_wp2_with fail
        exact hK _ (Below.refl _ _)
      simp only [List.set_cons_zero, List.set_cons_succ]
      refine wpG_pure (i := 4) (v := ?v10x4) rfl rfl (by rfl) (fun w hB hG K hK => ?h10x4) ?_
      case h10x4 =>
        go_wp2_with fail
        exact hK _ (Below.refl _ _)
      simp only [List.set_cons_zero, List.set_cons_succ]
      refine wpG_op (i := 5) (v := ?v10x5) rfl rfl (by rfl) (fun w hB hG K hK => ?h10x5) ?_
      case h10x5 =>
        have hx0 := (hB.cell (p := ⟨b', off + k1 * 8, none⟩) (World.block_lt_of_cell? w9 _ hc0)).trans hc0
        have hx1 := (hB.cell (p := ⟨b', off + k1 * 8 + 1, none⟩) (World.block_lt_of_cell? w9 _ hc1)).trans hc1
        have hx2 := (hB.cell (p := ⟨b', off + k1 * 8 + 2, none⟩) (World.block_lt_of_cell? w9 _ hc2)).trans hc2
        have hx3 := (hB.cell (p := ⟨b', off + k1 * 8 + 3, none⟩) (World.block_lt_of_cell? w9 _ hc3)).trans hc3
        go_wp2_with fail
        exact hK _ (Below.refl _ _)
      simp only [List.set_cons_zero, List.set_cons_succ]
      refine wpG_pure (i := 6) (v := ?v10x6) rfl rfl (by rfl) (fun w hB hG K hK => ?h10x6) ?_
      case h10x6 =>
        have cx := Own.cell hG 10 rfl
        go_wp2_with fail
        exact hK _ (Below.refl _ _)
      simp only [List.set_cons_zero, List.set_cons_succ]
      refine wpG_pure (i := 7) (v := ?v10x7) rfl rfl (by rfl) (fun w hB hG K hK => ?h10x7) ?_
      case h10x7 =>
        have cx := Own.cell hG 0 rfl
        go_wp2_with fail
        exact hK _ (Below.refl _ _)
      simp only [List.set_cons_zero, List.set_cons_succ]
      refine wpG_pure (i := 8) (v := ?v10x8) rfl rfl (by rfl) (fun w hB hG K hK => ?h10x8) ?_
      case h10x8 =>
        go_wp2_with fail
        exact hK _ (Below.refl _ _)
      simp only [List.set_cons_zero, List.set_cons_succ]
      refine wpG_pure (i := 9) (v := ?v10x9) rfl rfl (by rfl) (fun w hB hG K hK => ?h10x9) ?_
      case h10x9 =>
        go_wp2_with fail
        exact hK _ (Below.refl _ _)
      simp only [List.set_cons_zero, List.set_cons_succ]
      refine wpG_op (i := 10) (v := ?v10x10) rfl rfl (by rfl) (fun w hB hG K hK => ?h10x10) ?_
      case h10x10 =>
        have hx4 := (hB.cell (p := ⟨b', off + k1 * 8 + 4, none⟩) (World.block_lt_of_cell? w9 _ hc4)).trans hc4
        have hx5 := (hB.cell (p := ⟨b', off + k1 * 8 + 5, none⟩) (World.block_lt_of_cell? w9 _ hc5)).trans hc5
        have hx6 := (hB.cell (p := ⟨b', off + k1 * 8 + 6, none⟩) (World.block_lt_of_cell? w9 _ hc6)).trans hc6
        have hx7 := (hB.cell (p := ⟨b', off + k1 * 8 + 7, none⟩) (World.block_lt_of_cell? w9 _ hc7)).trans hc7
        have hx4' := hx4
        have hx5' := hx5
        have hx6' := hx6
        have hx7' := hx7
        go_wp2_with fail
        exact hK _ (Below.refl _ _)
      simp only [List.set_cons_zero, List.set_cons_succ]
      refine wpG_pure (i := 11) (v := ?v10x11) rfl rfl (by rfl) (fun w hB hG K hK => ?h10x11) ?_
      case h10x11 =>
        go_wp2_with fail
        refine (HN2.out _).mono ?_
        rintro e wx ⟨rfl, hbx⟩
        exact hK _ hbx
      simp only [List.set_cons_zero, List.set_cons_succ]
      refine wpG_move (i := 12) rfl rfl rfl (by rfl) rfl ?_
      simp only [List.set_cons_zero, List.set_cons_succ]
      refine wpG_pure (i := 13) (v := ?v10x13) rfl rfl (by rfl) (fun w hB hG K hK => ?h10x13) ?_
      case h10x13 =>
        go_wp2_with fail
        exact hK _ (Below.refl _ _)
      simp only [List.set_cons_zero, List.set_cons_succ]
      refine wpG_pure (i := 14) (v := ?v10x14) rfl rfl (by rfl) (fun w hB hG K hK => ?h10x14) ?_
      case h10x14 =>
        go_wp2_with fail
        exact hK _ (Below.refl _ _)
      simp only [List.set_cons_zero, List.set_cons_succ]
      refine wpG_pure (i := 15) (v := ?v10x15) rfl rfl (by rfl) (fun w hB hG K hK => ?h10x15) ?_
      case h10x15 =>
        go_wp2_with fail
        exact hK _ (Below.refl _ _)
      simp only [List.set_cons_zero, List.set_cons_succ]
      refine wpG_assign (i := 16) rfl rfl rfl (by rfl) rfl ?_
      simp only [List.set_cons_zero, List.set_cons_succ]
      refine wpG_assign (i := 17) rfl rfl rfl (by rfl) rfl ?_
      simp only [List.set_cons_zero, List.set_cons_succ]
      refine wpG_assign (i := 18) rfl rfl rfl (by rfl) rfl ?_
      simp only [List.set_cons_zero, List.set_cons_succ]
      refine wpG_nil (fun w10 hb10 hG10 => ?_)
      simp only [List.append_eq, List.cons_append, List.nil_append, List.drop_succ_cons, List.drop_zero, List.drop_nil]
      have O10 := Own.of hG10
      try simp only [List.setIfInBounds_toArray, List.set_cons_zero, List.set_cons_succ] at O10
      have bw10 : Below w.heap.size w w10 := Below.trans (by go_grown) (Below.mono hb10 (by first | omega | (simp; done) | (simp; omega)))
      have zw10 := Below.size hb10
      try simp only [World.size_alloc, World.size_drew, World.size_setCell] at zw10
      replace hD0 := ((KeepsOthers.refl _).trans (KeepsOthers.below hb10)).same _ _ hD0 rfl
      replace hD1 := ((KeepsOthers.refl _).trans (KeepsOthers.below hb10)).same _ _ hD1 rfl
      have kk10 := Keep.below kk9 hb10
      have hwc10 : Below w9.heap.size w9 w10 := Below.trans (by go_grown) (Below.mono hb10 (by first | omega | (simp; done) | (simp; omega)))
      clear c9x0 f9x0 l9x0 l9x0d0 l9x0d1 c9x1 f9x1 l9x1 l9x1d0 l9x1d1 c9x2 f9x2 l9x2 l9x2d0 l9x2d1 c9x3 f9x3 l9x3 l9x3d0 l9x3d1 c9x4 f9x4 l9x4 l9x4d0 l9x4d1 c9x5 f9x5 l9x5 l9x5d0 l9x5d1 c9x6 f9x6 l9x6 l9x6d0 l9x6d1 c9x7 f9x7 l9x7 l9x7d0 l9x7d1 c9x8 f9x8 l9x8 l9x8d0 l9x8d1 c9x9 f9x9 l9x9 l9x9d0 l9x9d1 c9x10 f9x10 l9x10 l9x10d0 l9x10d1
      have c10x0 := Own.cell O10 0 rfl
      have f10x0 := Own.free O10 0 rfl
      have l10x0 := Own.lt O10 0 rfl
      have l10x0d0 := le_up 0 l10x0
      have l10x0d1 := le_up 1 l10x0
      simp only [upN] at l10x0d0 l10x0d1
      have c10x1 := Own.cell O10 1 rfl
      have f10x1 := Own.free O10 1 rfl
      have l10x1 := Own.lt O10 1 rfl
      have l10x1d0 := le_up 0 l10x1
      have l10x1d1 := le_up 1 l10x1
      simp only [upN] at l10x1d0 l10x1d1
      have c10x2 := Own.cell O10 2 rfl
      have f10x2 := Own.free O10 2 rfl
      have l10x2 := Own.lt O10 2 rfl
      have l10x2d0 := le_up 0 l10x2
      have l10x2d1 := le_up 1 l10x2
      simp only [upN] at l10x2d0 l10x2d1
      have c10x3 := Own.cell O10 3 rfl
      have f10x3 := Own.free O10 3 rfl
      have l10x3 := Own.lt O10 3 rfl
      have l10x3d0 := le_up 0 l10x3
      have l10x3d1 := le_up 1 l10x3
      simp only [upN] at l10x3d0 l10x3d1
      have c10x4 := Own.cell O10 4 rfl
      have f10x4 := Own.free O10 4 rfl
      have l10x4 := Own.lt O10 4 rfl
      have l10x4d0 := le_up 0 l10x4
      have l10x4d1 := le_up 1 l10x4
      simp only [upN] at l10x4d0 l10x4d1
      have c10x5 := Own.cell O10 5 rfl
      have f10x5 := Own.free O10 5 rfl
      have l10x5 := Own.lt O10 5 rfl
      have l10x5d0 := le_up 0 l10x5
      have l10x5d1 := le_up 1 l10x5
      simp only [upN] at l10x5d0 l10x5d1
      have c10x6 := Own.cell O10 6 rfl
      have f10x6 := Own.free O10 6 rfl
      have l10x6 := Own.lt O10 6 rfl
      have l10x6d0 := le_up 0 l10x6
      have l10x6d1 := le_up 1 l10x6
      simp only [upN] at l10x6d0 l10x6d1
      have c10x7 := Own.cell O10 7 rfl
      have f10x7 := Own.free O10 7 rfl
      have l10x7 := Own.lt O10 7 rfl
      have l10x7d0 := le_up 0 l10x7
      have l10x7d1 := le_up 1 l10x7
      simp only [upN] at l10x7d0 l10x7d1
      have c10x8 := Own.cell O10 8 rfl
      have f10x8 := Own.free O10 8 rfl
      have l10x8 := Own.lt O10 8 rfl
      have l10x8d0 := le_up 0 l10x8
      have l10x8d1 := le_up 1 l10x8
      simp only [upN] at l10x8d0 l10x8d1
      have c10x9 := Own.cell O10 9 rfl
      have f10x9 := Own.free O10 9 rfl
      have l10x9 := Own.lt O10 9 rfl
      have l10x9d0 := le_up 0 l10x9
      have l10x9d1 := le_up 1 l10x9
      simp only [upN] at l10x9d0 l10x9d1
      have c10x10 := Own.cell O10 10 rfl
      have f10x10 := Own.free O10 10 rfl
      have l10x10 := Own.lt O10 10 rfl
      have l10x10d0 := le_up 0 l10x10
      have l10x10d1 := le_up 1 l10x10
      simp only [upN] at l10x10d0 l10x10d1
      have HO10 := Lib.hid O10
      clear O10 hb10
      go_wp2_with fail
      refine (num_any _ _).mono ?_
      rintro e w' ⟨rfl, rfl⟩
      go_wp2_with fail
      rw [rounds_succ]
      go_wp2_with fail
      refine (works_any _).mono ?_
      rintro e w11 ⟨rfl, hb11⟩
      have O11 := Own.grow' hb11 (Own.new HO10.out (w10.heap.size) rfl)
      try simp only [List.setIfInBounds_toArray, List.set_cons_zero, List.set_cons_succ] at O11
      have bw11 : Below w.heap.size w w11 := Below.trans (by go_grown) (Below.mono hb11 (by first | omega | (simp; done) | (simp; omega)))
      have zw11 := Below.size hb11
      try simp only [World.size_alloc, World.size_drew, World.size_setCell] at zw11
      replace hD0 := (((KeepsOthers.refl _).trans (KeepsOthers.alloc _ _)).trans (KeepsOthers.below hb11)).same _ _ hD0 rfl
      replace hD1 := (((KeepsOthers.refl _).trans (KeepsOthers.alloc _ _)).trans (KeepsOthers.below hb11)).same _ _ hD1 rfl
      have kk11 := Keep.below (Keep.alloc kk10 _) hb11
      clear c10x0 f10x0 l10x0 l10x0d0 l10x0d1 c10x1 f10x1 l10x1 l10x1d0 l10x1d1 c10x2 f10x2 l10x2 l10x2d0 l10x2d1 c10x3 f10x3 l10x3 l10x3d0 l10x3d1 c10x4 f10x4 l10x4 l10x4d0 l10x4d1 c10x5 f10x5 l10x5 l10x5d0 l10x5d1 c10x6 f10x6 l10x6 l10x6d0 l10x6d1 c10x7 f10x7 l10x7 l10x7d0 l10x7d1 c10x8 f10x8 l10x8 l10x8d0 l10x8d1 c10x9 f10x9 l10x9 l10x9d0 l10x9d1 c10x10 f10x10 l10x10 l10x10d0 l10x10d1
      have c11x0 := Own.cell O11 0 rfl
      have f11x0 := Own.free O11 0 rfl
      have l11x0 := Own.lt O11 0 rfl
      have l11x0d0 := le_up 0 l11x0
      have l11x0d1 := le_up 1 l11x0
      simp only [upN] at l11x0d0 l11x0d1
      have c11x1 := Own.cell O11 1 rfl
      have f11x1 := Own.free O11 1 rfl
      have l11x1 := Own.lt O11 1 rfl
      have l11x1d0 := le_up 0 l11x1
      have l11x1d1 := le_up 1 l11x1
      simp only [upN] at l11x1d0 l11x1d1
      have c11x2 := Own.cell O11 2 rfl
      have f11x2 := Own.free O11 2 rfl
      have l11x2 := Own.lt O11 2 rfl
      have l11x2d0 := le_up 0 l11x2
      have l11x2d1 := le_up 1 l11x2
      simp only [upN] at l11x2d0 l11x2d1
      have c11x3 := Own.cell O11 3 rfl
      have f11x3 := Own.free O11 3 rfl
      have l11x3 := Own.lt O11 3 rfl
      have l11x3d0 := le_up 0 l11x3
      have l11x3d1 := le_up 1 l11x3
      simp only [upN] at l11x3d0 l11x3d1
      have c11x4 := Own.cell O11 4 rfl
      have f11x4 := Own.free O11 4 rfl
      have l11x4 := Own.lt O11 4 rfl
      have l11x4d0 := le_up 0 l11x4
      have l11x4d1 := le_up 1 l11x4
      simp only [upN] at l11x4d0 l11x4d1
      have c11x5 := Own.cell O11 5 rfl
      have f11x5 := Own.free O11 5 rfl
      have l11x5 := Own.lt O11 5 rfl
      have l11x5d0 := le_up 0 l11x5
      have l11x5d1 := le_up 1 l11x5
      simp only [upN] at l11x5d0 l11x5d1
      have c11x6 := Own.cell O11 6 rfl
      have f11x6 := Own.free O11 6 rfl
      have l11x6 := Own.lt O11 6 rfl
      have l11x6d0 := le_up 0 l11x6
      have l11x6d1 := le_up 1 l11x6
      simp only [upN] at l11x6d0 l11x6d1
      have c11x7 := Own.cell O11 7 rfl
      have f11x7 := Own.free O11 7 rfl
      have l11x7 := Own.lt O11 7 rfl
      have l11x7d0 := le_up 0 l11x7
      have l11x7d1 := le_up 1 l11x7
      simp only [upN] at l11x7d0 l11x7d1
      have c11x8 := Own.cell O11 8 rfl
      have f11x8 := Own.free O11 8 rfl
      have l11x8 := Own.lt O11 8 rfl
      have l11x8d0 := le_up 0 l11x8
      have l11x8d1 := le_up 1 l11x8
      simp only [upN] at l11x8d0 l11x8d1
      have c11x9 := Own.cell O11 9 rfl
      have f11x9 := Own.free O11 9 rfl
      have l11x9 := Own.lt O11 9 rfl
      have l11x9d0 := le_up 0 l11x9
      have l11x9d1 := le_up 1 l11x9
      simp only [upN] at l11x9d0 l11x9d1
      have c11x10 := Own.cell O11 10 rfl
      have f11x10 := Own.free O11 10 rfl
      have l11x10 := Own.lt O11 10 rfl
      have l11x10d0 := le_up 0 l11x10
      have l11x10d1 := le_up 1 l11x10
      simp only [upN] at l11x10d0 l11x10d1
      have c11x11 := Own.cell O11 11 rfl
      have f11x11 := Own.free O11 11 rfl
      have l11x11 := Own.lt O11 11 rfl
      have l11x11d0 := le_up 0 l11x11
      have l11x11d1 := le_up 1 l11x11
      simp only [upN] at l11x11d0 l11x11d1
      have HO11 := Lib.hid O11
      clear O11 hb11
      go_wp2_with fail
      try rw [zWL0] at hD0
      try rw [zWL1] at hD1
      refine ret_mark2 (D := w1.heap.size + 4) (E := V0.heap.size + 4) (v := .bool true) (((KeepsOthers.refl _).trans (KeepsOthers.setCell _ _ _)).same _ _ hD0 rfl) (((KeepsOthers.refl _).trans (KeepsOthers.setCell _ _ _)).same _ _ hD1 rfl) (by omega) ?_ ?_
      · have c6 : ((((w11).setCell ⟨w.heap.size + 1 + 1, 0, none⟩ (.bool true)).putObj (V0.heap.size + 4) (.deferred none)).putObj (w1.heap.size + 4) (.deferred none)).cell? ⟨w.heap.size + 1 + 1, 0, none⟩ = some (.bool true) := (((Own.get (Own.set HO11.out 9 rfl (Ne1.cons (by first | omega | (simp; omega)) (Ne1.cons (by first | omega | (simp; omega)) (Ne1.cons (by first | omega | (simp; omega)) (Ne1.cons (by first | omega | (simp; omega)) (Ne1.cons (by first | omega | (simp; omega)) (Ne1.cons (by first | omega | (simp; omega)) (Ne1.cons (by first | omega | (simp; omega)) (Ne1.cons (by first | omega | (simp; omega)) (Ne1.cons (by first | omega | (simp; omega)) (Ne1.cons (by first | omega | (simp; omega)) (Ne1.cons (by first | omega | (simp; omega)) Ne1.nil)))))))))))) 9 rfl).put (D := V0.heap.size + 4) (.deferred none) (by omega)).put (D := w1.heap.size + 4) (.deferred none) (by omega)).cell 0
        simp [results, Try.results6, go_sem, c6]
      · exact ⟨rfl, Below.put (Below.put (by go_grown) _ (by omega)) _ (by omega)⟩

theorem preach_any (A : Option Addr) (n : Int) (xs : List WW) (cap : Nat) (many : Int) (w : World) (hS : SlAt w A (pairsC xs)) (hcap : xs.length ≤ cap) :
    Calls Try.prog 6 #[.int .i64 n, .slice A xs.length cap, .int .i64 many] w fun e w' => e = .returned (.bool true) ∧ Below w.heap.size w w' := by
  by_cases h : 12 < xs.length
  · exact preach_s A _ cap n many w h
  obtain ⟨m, hm⟩ := upto_has n xs
  by_cases hms : m < xs.length
  · exact preach_gs A n xs cap m many w hS hcap (by omega) hm hms
  · exact preach_gl A n xs cap m many w hS hcap (by omega) hm (by have := hm.1; omega)
end Go.Proofs.Ytclgoamhbakdlaa
