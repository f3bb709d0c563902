/- Sums of words, by the document. No condition. -/
import Derived.Test.YtjlijocnmicdpaaWdc
import Derived.Test.YtjlijocnmicdpaaGrw
set_option linter.unusedVariables false
set_option linter.unusedSimpArgs false
namespace Go.Proofs.Ytjlijocnmicdpaa
open Go.RowKit

def addF (X Y k : Nat) : Nat → Int := fun j => if 31 - j < k then ((dig (X + Y) (31 - j) : Nat) : Int) else ((dig X (31 - j) : Nat) : Int)
theorem addF_zero (X Y : Nat) : addF X Y 0 = fun j => ((dig X (31 - j) : Nat) : Int) := by funext j; unfold addF; rw [if_neg (by omega)]
theorem addF_end (X Y : Nat) : arr32 (addF X Y 32) = arr32 fun j => ((dig (X + Y) (31 - j) : Nat) : Int) := arr32_congr fun j hj => by unfold addF; rw [if_pos (by omega)]
theorem addF_at {X Y k m : Nat} (h : m + k = 31) : addF X Y k m = ((dig X k : Nat) : Int) := by unfold addF; rw [if_neg (by omega), show 31 - m = k by omega]
theorem addF_step {X Y k m : Nat} (h : m + k = 31) : (arr32 (addF X Y k)).setIfInBounds m (.int .u8 ((dig (X + Y) k : Nat) : Int)) = arr32 (addF X Y (k + 1)) := by
  rw [arr32_set]
  refine arr32_congr fun j hj => ?_
  unfold addF
  by_cases hjm : j = m
  · subst hjm; rw [if_pos rfl, if_pos (by omega), show 31 - j = k by omega]
  · rw [if_neg hjm]
    by_cases h2 : 31 - j < k
    · rw [if_pos h2, if_pos (by omega)]
    · rw [if_neg h2, if_neg (by omega)]
theorem cAdd_le (X Y k : Nat) : cAdd 256 X Y k ≤ 1 := by
  unfold cAdd
  have h1 := Nat.mod_lt X (show 0 < 256 ^ k from Nat.pow_pos (by decide))
  have h2 := Nat.mod_lt Y (show 0 < 256 ^ k from Nat.pow_pos (by decide))
  have : (X % 256 ^ k + Y % 256 ^ k) / 256 ^ k < 2 := Nat.div_lt_of_lt_mul (by omega)
  omega
def AddRel (X Y b : Nat) (V : World) (c i : Value) (wr : World) : Prop :=
  ∃ k : Nat, k ≤ 32 ∧ i = .int .i64 (31 - (k : Int)) ∧ c = .int .i64 (cAdd 256 X Y k : Nat) ∧ Blk wr b (arr32 (addF X Y k)) 106 ∧ V.grownBy wr (some b)
set_option maxRecDepth 20000 in
set_option maxHeartbeats 4000000 in
theorem refAddW (x y : BitVec 256) (w : World) : Calls Try.prog 44 #[W x, W y] w fun e w' => e = .returned (W (x + y)) ∧ Below w.heap.size w w' := by
  have hi3 : (Try.prog.info? 106).map (·.size) = some 32 := by kernel_rfl
  have hu3 : Try.prog.underlying 106 = some (.array 32 5) := by kernel_rfl
  have HI3 := Lib.hid hi3
  have HU3 := Lib.hid hu3
  have HBx := Lib.hid (fun V => refBytesW x V)
  have HBy := Lib.hid (fun V => refBytesW y V)
  have HF := Lib.hid (fun V => show Calls Try.prog 58 #[.agg (arr32 fun j => ((dig (x.toNat + y.toNat) (31 - j) : Nat) : Int))] V fun e w' => e = .returned (W (x + y)) ∧ Below V.heap.size V w' by rw [← ofNat_add]; exact refFromW _ V)
  clear hi3 hu3
  generalize x.toNat = X at *
  generalize y.toNat = Y at *
  go_enter Try.func44, Try.ntmps44
  go_wp2_with fail
  refine wp_region_grow w.heap.size 6 0 48 [(0, 0, 512, 4), (1, 1, 1024, 512), (2, 0, 2048, 8), (3, 6, 4096, 2048), (4, 0, 32, 0), (5, 0, 64, 0), (6, 59, 0, 1056), (7, 127, 0, 4160)] [(.p 0, 1), (.p 1, 3), (.p 2, 7), (.p 3, 15), (.gg 4 5, 63)] [(6, 127), (7, 255)] _ (fun p hp => hp) (by first | omega | (simp; done) | (simp; omega)) (by kernel_rfl) (by kernel_rfl) (Own.new (Own.new (Own.new (Own.nil w) (w.heap.size) (by first | rfl | simp)) (w.heap.size + 1) (by simp)) (w.heap.size + 1 + 1) (by simp)) ?_
  refine wpG_pure (i := 0) (v := ?v1x0) rfl rfl (by rfl) (fun w hB hG K hK => ?h1x0) ?_
  case h1x0 =>
    have cx := Own.cell hG 2 rfl
    go_wp2_with fail
    exact hK _ (Below.refl _ _)
  simp only [List.set_cons_zero, List.set_cons_succ]
  refine wpG_pure (i := 1) (v := ?v1x1) rfl rfl (by rfl) (fun w hB hG K hK => ?h1x1) ?_
  case h1x1 =>
    go_wp2_with fail
    refine (HBx.out _).mono ?_
    rintro e wx ⟨rfl, hbx⟩
    exact hK _ hbx
  simp only [List.set_cons_zero, List.set_cons_succ]
  refine wpG_pure (i := 2) (v := ?v1x2) rfl rfl (by rfl) (fun w hB hG K hK => ?h1x2) ?_
  case h1x2 =>
    have cx := Own.cell hG 1 rfl
    go_wp2_with fail
    exact hK _ (Below.refl _ _)
  simp only [List.set_cons_zero, List.set_cons_succ]
  refine wpG_pure (i := 3) (v := ?v1x3) rfl rfl (by rfl) (fun w hB hG K hK => ?h1x3) ?_
  case h1x3 =>
    go_wp2_with fail
    refine (HBy.out _).mono ?_
    rintro e wx ⟨rfl, hbx⟩
    exact hK _ hbx
  simp only [List.set_cons_zero, List.set_cons_succ]
  refine wpG_pair (i := 4) (j := 5) (c := ?c1x4) (t := ?t1x4) (c2 := ?c1x5) (t2 := ?t1x5) (fun b => .pointer (some ⟨b, 0, none⟩)) (fun b => .pointer (some ⟨b, 0, none⟩)) rfl rfl rfl rfl (by rfl) (by rfl) (fun w hB hG K hK => ?h1x4) (fun w hB hG K hK => ?h1x5) (fun v1g1 v1g2 l1g1 l1g2 n1g1 _ _ => ?_)
  case h1x4 =>
    go_wp2_with fail
    exact hK
  case h1x5 =>
    go_wp2_with fail
    exact hK
  simp only [List.set_cons_zero, List.set_cons_succ]
  try simp only [World.size_alloc, World.size_drew, World.size_setCell] at l1g1
  try simp only [World.size_alloc, World.size_drew, World.size_setCell] at l1g2
  refine wpG_nil (fun w1 hb1 hG1 => ?_)
  simp only [List.append_eq, List.cons_append, List.nil_append, List.drop_succ_cons, List.drop_zero, List.drop_nil]
  have u1g1 := Own.lt hG1 1 rfl
  have u1g2 := Own.lt hG1 0 rfl
  have O1 := Own.of hG1
  try simp only [List.setIfInBounds_toArray, List.set_cons_zero, List.set_cons_succ] at O1
  have bw1 : Below w.heap.size w w1 := Below.trans (by go_grown) (Below.mono hb1 (by first | omega | (simp; done) | (simp; omega)))
  have zw1 := Below.size hb1
  try simp only [World.size_alloc, World.size_drew, World.size_setCell] at zw1
  have c1x0 := Own.cell O1 0 rfl
  have f1x0 := Own.free O1 0 rfl
  have l1x0 := Own.lt O1 0 rfl
  have l1x0d0 := le_up 0 l1x0
  have l1x0d1 := le_up 1 l1x0
  simp only [upN] at l1x0d0 l1x0d1
  have c1x1 := Own.cell O1 1 rfl
  have f1x1 := Own.free O1 1 rfl
  have l1x1 := Own.lt O1 1 rfl
  have l1x1d0 := le_up 0 l1x1
  have l1x1d1 := le_up 1 l1x1
  simp only [upN] at l1x1d0 l1x1d1
  have c1x2 := Own.cell O1 2 rfl
  have f1x2 := Own.free O1 2 rfl
  have l1x2 := Own.lt O1 2 rfl
  have l1x2d0 := le_up 0 l1x2
  have l1x2d1 := le_up 1 l1x2
  simp only [upN] at l1x2d0 l1x2d1
  have c1x3 := Own.cell O1 3 rfl
  have f1x3 := Own.free O1 3 rfl
  have l1x3 := Own.lt O1 3 rfl
  have l1x3d0 := le_up 0 l1x3
  have l1x3d1 := le_up 1 l1x3
  simp only [upN] at l1x3d0 l1x3d1
  have c1x4 := Own.cell O1 4 rfl
  have f1x4 := Own.free O1 4 rfl
  have l1x4 := Own.lt O1 4 rfl
  have l1x4d0 := le_up 0 l1x4
  have l1x4d1 := le_up 1 l1x4
  simp only [upN] at l1x4d0 l1x4d1
  have HO1 := Lib.hid O1
  clear O1 hb1
  go_upto_region 2 with (first | (refine wpList_store_row rfl 106 (.tmp 5) (.tmp 10) (by with_reducible rfl) _ _ rfl rfl _ _ (Own.get HO1.out 1 rfl) HI3.out rfl (by simp [Value.oneCell']) ?_) | (refine wpList_store_row rfl 106 (.tmp 6) (.tmp 12) (by with_reducible rfl) _ _ rfl rfl _ _ ((setRow_other _ _ _ _ (by omega)).trans (Own.get HO1.out 0 rfl)) HI3.out rfl (by simp [Value.oneCell']) ?_))
  refine wp_name fun V hV => ?_
  have hx : Blk V v1g1 (arr32 fun j => ((dig X (31 - j) : Nat) : Int)) 106 := by
    rw [hV]
    exact (setRow_other _ _ _ _ (by omega)).trans (setRow_heap _ _ _ _ _ _ (Own.get HO1.out 1 rfl))
  have hy : Blk V v1g2 (arr32 fun j => ((dig Y (31 - j) : Nat) : Int)) 106 := by
    rw [hV]
    exact setRow_heap _ _ _ _ _ _ ((setRow_other _ _ _ _ (by omega)).trans (Own.get HO1.out 0 rfl))
  have hz : Blk V (w.heap.size + 2) #[.int .u64 0, .int .u64 0, .int .u64 0, .int .u64 0] 80 := by
    rw [hV]
    exact (setRow_other _ _ _ _ (by omega)).trans ((setRow_other _ _ _ _ (by omega)).trans (Own.get HO1.out 2 rfl))
  have hB : Below w.heap.size w V := by
    rw [hV]
    exact below_setRow (below_setRow bw1 (by omega) _) (by omega) _
  have hne : v1g1 ≠ v1g2 := by omega
  have hne2 : w.heap.size + 2 ≠ v1g1 := by omega
  have hle : w.heap.size ≤ v1g1 := by omega
  have HX := Lib.hid hx
  have HY := Lib.hid hy
  have HZ := Lib.hid hz
  have HB := Lib.hid hB
  clear hV hx hy hz hB HO1 bw1 c1x0 f1x0 l1x0 l1x0d0 l1x0d1 c1x1 f1x1 l1x1 l1x1d0 l1x1d1 c1x2 f1x2 l1x2 l1x2d0 l1x2d1 c1x3 f1x3 l1x3 l1x3d0 l1x3d1 c1x4 f1x4 l1x4 l1x4d0 l1x4d1
  generalize v1g1 = b5 at *
  generalize v1g2 = b6 at *
  try clear zw1
  go_wp2_with fail
  go_loopw [7, 8] (fun c i wr => AddRel X Y b5 V c i wr) (fun _ i _ => (intOf i + 1).toNat)
  case atStart => exact ⟨0, Nat.zero_le _, rfl, by rw [cAdd_zero]; rfl, by rw [addF_zero]; exact HX.out, grownBy_refl _ _⟩
  case round =>
    obtain ⟨k, hk, rfl, rfl, hblk, hgr⟩ := hrel
    have hyb := blk_grown HY.out hgr (Ne.symm hne)
    have hl5 := hblk.lt
    have hl6 := hyb.lt
    have HGR := Lib.hid hgr
    by_cases hlt : k < 32
    · obtain ⟨m, hm⟩ : ∃ m, m + k = 31 := ⟨31 - k, by omega⟩
      have hmi : (31 - (k : Int)) = (m : Int) := by omega
      have hstep := addF_step (X := X) (Y := Y) hm
      have hat := addF_at (X := X) (Y := Y) hm
      have hc1 := cAdd_le X Y k
      have hsu := cAdd_succ 256 X Y k (by decide)
      have hdg := cAdd_dig 256 X Y k (by decide)
      rw [show X / 256 ^ k % 256 = dig X k from rfl, show Y / 256 ^ k % 256 = dig Y k from rfl] at hsu hdg
      rw [show (X + Y) / 256 ^ k % 256 = dig (X + Y) k from rfl] at hdg
      have hdx := dig_lt X k
      have hdy := dig_lt Y k
      have hYat : (31 - m) = k := by omega
      have hcy0 : (arr32 fun j => ((dig Y (31 - j) : Nat) : Int))[m]? = some (.int .u8 ((dig Y k : Nat) : Int)) := by rw [arr32_at _ (by omega), hYat]
      have hcx0 : (arr32 (addF X Y k))[m]? = some (.int .u8 ((dig X k : Nat) : Int)) := by rw [arr32_at _ (by omega), hat]
      rw [hmi]
      generalize hc1e : cAdd 256 X Y (k + 1) = c1 at *
      generalize cAdd 256 X Y k = c0 at *
      generalize hdX : dig X k = dx at *
      generalize hdY : dig Y k = dy at *
      generalize dig (X + Y) k = dz at *
      generalize hAN : arr32 (addF X Y (k + 1)) = AN at *
      generalize arr32 (addF X Y k) = AO at *
      generalize (arr32 fun j => ((dig Y (31 - j) : Nat) : Int)) = AY at *
      have hd1 : decide ((0 : Int) ≤ (m : Int)) = true := by simp
      clear hat hgr hYat hdX hdY
      go_wp2_with fail
      refine wp_region_grow wr.heap.size 11 0 0 [(0, 0, 131072, 128), (1, 0, 262144, 256), (2, 2, 524288, 262176), (3, 4, 1048576, 524288), (4, 8, 2097152, 1048576), (5, 17, 4194304, 2228224), (6, 0, 8388608, 256), (7, 64, 16777216, 8388672), (8, 128, 33554432, 16777216), (9, 256, 67108864, 33554432), (10, 544, 134217728, 71303168), (11, 2047, 128, 134217728)] [(.p 0, 1), (.p 1, 3), (.p 2, 7), (.p 3, 15), (.p 4, 31), (.p 5, 63), (.p 6, 127), (.p 7, 255), (.p 8, 511), (.p 9, 1023), (.p 10, 2047)] [(11, 4095)] _ (fun p hp => hp) (by first | omega | (simp; done) | (simp; omega)) (by kernel_rfl) (by kernel_rfl) (Own.cons hblk (own1 hyb)) ?_
      refine wpG_move (i := 0) rfl rfl rfl (by rfl) rfl ?_
      simp only [List.set_cons_zero, List.set_cons_succ]
      refine wpG_move (i := 1) rfl rfl rfl (by rfl) rfl ?_
      simp only [List.set_cons_zero, List.set_cons_succ]
      refine wpG_pure (i := 2) (v := ?v6x2) rfl rfl (by rfl) (fun w hB hG K hK => ?h6x2) ?_
      case h6x2 =>
        go_wp2_with fail
        exact hK _ (Below.refl _ _)
      simp only [List.set_cons_zero, List.set_cons_succ]
      refine wpG_pure (i := 3) (v := ?v6x3) rfl rfl (by rfl) (fun w hB hG K hK => ?h6x3) ?_
      case h6x3 =>
        have hcx := (hG.cell 0 rfl m).trans hcx0
        have cx := Own.cell hG 0 rfl
        go_wp2_with fail
        exact hK _ (Below.refl _ _)
      simp only [List.set_cons_zero, List.set_cons_succ]
      refine wpG_pure (i := 4) (v := ?v6x4) rfl rfl (by rfl) (fun w hB hG K hK => ?h6x4) ?_
      case h6x4 =>
        go_wp2_with fail
        exact hK _ (Below.refl _ _)
      simp only [List.set_cons_zero, List.set_cons_succ]
      refine wpG_pure (i := 5) (v := ?v6x5) rfl rfl (by rfl) (fun w hB hG K hK => ?h6x5) ?_
      case h6x5 =>
        go_wp2_with fail
        exact hK _ (Below.refl _ _)
      simp only [List.set_cons_zero, List.set_cons_succ]
      refine wpG_move (i := 6) rfl rfl rfl (by rfl) rfl ?_
      simp only [List.set_cons_zero, List.set_cons_succ]
      refine wpG_pure (i := 7) (v := ?v6x7) rfl rfl (by rfl) (fun w hB hG K hK => ?h6x7) ?_
      case h6x7 =>
        go_wp2_with fail
        exact hK _ (Below.refl _ _)
      simp only [List.set_cons_zero, List.set_cons_succ]
      refine wpG_pure (i := 8) (v := ?v6x8) rfl rfl (by rfl) (fun w hB hG K hK => ?h6x8) ?_
      case h6x8 =>
        have hcy := (hG.cell 1 rfl m).trans hcy0
        have cx := Own.cell hG 1 rfl
        go_wp2_with fail
        exact hK _ (Below.refl _ _)
      simp only [List.set_cons_zero, List.set_cons_succ]
      refine wpG_pure (i := 9) (v := ?v6x9) rfl rfl (by rfl) (fun w hB hG K hK => ?h6x9) ?_
      case h6x9 =>
        go_wp2_with fail
        exact hK _ (Below.refl _ _)
      simp only [List.set_cons_zero, List.set_cons_succ]
      refine wpG_pure (i := 10) (v := ?v6x10) rfl rfl (by rfl) (fun w hB hG K hK => ?h6x10) ?_
      case h6x10 =>
        go_wp2_with fail
        exact hK _ (Below.refl _ _)
      simp only [List.set_cons_zero, List.set_cons_succ]
      refine wpG_nil (fun w6 hb6 hG6 => ?_)
      simp only [List.append_eq, List.cons_append, List.nil_append, List.drop_succ_cons, List.drop_zero, List.drop_nil]
      have O6 := Own.of hG6
      try simp only [List.setIfInBounds_toArray, List.set_cons_zero, List.set_cons_succ] at O6
      have bw6 : Below wr.heap.size wr w6 := Below.trans (by go_grown) (Below.mono hb6 (by first | omega | (simp; done) | (simp; omega)))
      have zw6 := Below.size hb6
      try simp only [World.size_alloc, World.size_drew, World.size_setCell] at zw6
      have c6x0 := Own.cell O6 0 rfl
      have f6x0 := Own.free O6 0 rfl
      have l6x0 := Own.lt O6 0 rfl
      have l6x0d0 := le_up 0 l6x0
      have l6x0d1 := le_up 1 l6x0
      simp only [upN] at l6x0d0 l6x0d1
      have c6x1 := Own.cell O6 1 rfl
      have f6x1 := Own.free O6 1 rfl
      have l6x1 := Own.lt O6 1 rfl
      have l6x1d0 := le_up 0 l6x1
      have l6x1d1 := le_up 1 l6x1
      simp only [upN] at l6x1d0 l6x1d1
      have HO6 := Lib.hid O6
      clear O6 hb6
      have hcs := (HO6.out.cell 0 rfl m).trans hcx0
      have hfs := HO6.out.free 0 rfl m
      have hbk := (HO6.out.get 0 rfl).set m (.int .u8 ((dz : Nat) : Int))
      rw [hstep] at hbk
      have HK := Lib.hid hbk
      have HG3 := Lib.hid (grownBy_setr (grownBy_trans HGR.out (grownBy_below bw6 (some b5))) b5 m (.int .u8 ((dz : Nat) : Int)))
      have hz1 : ((c0 : Int) + dx + dy) % 256 = ((dz : Nat) : Int) := by omega
      have hz2 : ((c0 : Int) + dx + dy) / 256 = ((c1 : Nat) : Int) := by omega
      clear hbk bw6 hsu hdg hcx0 hcy0 hstep c6x0 c6x1
      go_wp2_with fail
      refine ⟨⟨k + 1, by omega, ?_, ?_, by rw [hAN]; exact HK.out, HG3.out⟩, by simp only [intOf]; omega⟩
      · exact congrArg (Value.int .i64) (by omega)
      · rw [hc1e]; exact congrArg (Value.int .i64) (by omega)
    · obtain rfl : k = 32 := by omega
      rw [addF_end] at hblk
      have hzb := blk_grown HZ.out hgr hne2
      have hB4 := below_grownBy HB.out hgr (Nat.le_refl _) hle
      have HK := Lib.hid hblk
      have HZ2 := Lib.hid hzb
      have HB4 := Lib.hid hB4
      clear hblk hzb hB4 hgr
      go_wp2_with (first
        | (refine wpList_load_row rfl 106 (.tmp 5) (by with_reducible rfl) _ rfl _ _ (0, 0) _ HK.out HU3.out rfl HI3.out ?_))
      refine (HF.out _).mono ?_
      rintro e w2 ⟨rfl, hb2⟩
      have hq2 := HZ2.out.grow hb2
      have hlq := hq2.lt
      have hf0 := hq2.free 0
      have hf1 := hq2.free 1
      have hf2 := hq2.free 2
      have hf3 := hq2.free 3
      have e0 := hq2.cell 0
      have e1 := hq2.cell 1
      have e2 := hq2.cell 2
      have e3 := hq2.cell 3
      have HBW := Lib.hid (HB4.out.trans (hb2.mono HB4.out.size))
      clear hb2 hq2
      go_wp2_with fail
      refine bodyPost_ret (v := W (x + y)) (by simp [results, Try.results44, go_sem, *]) rfl ?_
      refine ⟨rfl, ?_⟩
      have := HBW.out
      go_grown
end Go.Proofs.Ytjlijocnmicdpaa
