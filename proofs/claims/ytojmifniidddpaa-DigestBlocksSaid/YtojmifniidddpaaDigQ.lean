/- The digest of bytes, by the document. -/
import Derived.Test.YtojmifniidddpaaDigP
set_option linter.unusedVariables false
set_option linter.unusedSimpArgs false
namespace Go.Proofs.Ytojmifniidddpaa
open Go.RowKit

theorem bvA_one (l : List (BitVec 64)) : (bvA l).all (·.oneCell') = true := by unfold bvA; simp [Value.oneCell']
theorem bvA_size {l : List (BitVec 64)} (h : l.length = 25) : (bvA l).size = 25 := by unfold bvA; simpa using h
def zero32 : Array Value := arr32 fun _ => 0
def RsRel (p : List Nat) (m : Nat) (w1 : World) (v : Value) (wr : World) : Prop :=
  ∃ k : Nat, k ≤ m ∧ v = .int .i64 k ∧ Blk wr w1.heap.size (bvA (absK p k)) 32 ∧ Below w1.heap.size w1 wr
def RxRel (s : List (BitVec 64)) (x : Nat → Nat) (gs bx : Nat) (V1 : World) (v : Value) (wr : World) : Prop := ∃ j : Nat, j ≤ 17 ∧ v = .int .i64 j ∧ Blk wr gs (bvA (xorK s x j)) 32 ∧ Blk wr bx (lanes x) 29 ∧ V1.grownBy wr (some gs)
def RoRel (s : List (BitVec 64)) (gs bo : Nat) (V1 : World) (v : Value) (wr : World) : Prop := ∃ i : Nat, i ≤ 32 ∧ v = .int .i64 i ∧ Blk wr bo (arr32 (outG s i)) 39 ∧ Blk wr gs (bvA s) 32 ∧ V1.grownBy wr (some bo)
attribute [local irreducible] turnS absK xorK
set_option maxRecDepth 20000 in
set_option maxHeartbeats 1000000 in
theorem refSum_any (A : Option Addr) (xs : List Nat) (cap : Nat) (w : World) (hS : SlAt w A (natC xs)) (hcap : xs.length ≤ cap) (hn : xs.length ≤ 100000) (hnil : A = none → xs.length = 0 ∧ cap = 0) (hb8 : ∀ x ∈ xs, x < 256) :
    Calls Try.prog 15 #[.slice A xs.length cap] w fun e w' => e = .returned (.agg (arr32 fun j => ((sumG xs j : Nat) : Int))) ∧ Below w.heap.size w w' := by
  have HPD := Lib.hid (fun V (hb : Below w.heap.size w V) => padded_any A xs cap V (hS.grow hb) hcap hn hnil)
  have hpl := padS_len xs
  have hbm := blkN_mul xs.length
  have hpn := padN_lt xs.length
  have HBK := Lib.hid (fun A2 c k V h1 h3 hk => refBlock_any A2 (padS xs) (xs.length + 1 + padN xs.length) (blkN xs.length) c k V h1 hpl hbm h3 hk (by omega) (padS_lt hb8))
  have HSG := Lib.hid (show ∀ j, stB (absK (padS xs) (blkN xs.length)) j = sumG xs j from fun j => rfl)
  have HPB := Lib.hid (padS_lt hb8)
  clear hS hb8 hpl hnil
  generalize hNN : xs.length + 1 + padN xs.length = N at *
  have hN1 : N ≤ 100137 := by omega
  generalize hmm : blkN xs.length = m at *
  have hu : Try.prog.underlying 29 = some (.array 17 28) := by kernel_rfl
  have hi : (Try.prog.info? 29).map (·.size) = some 17 := by kernel_rfl
  have hu2 : Try.prog.underlying 32 = some (.array 25 28) := by kernel_rfl
  have hi2 : (Try.prog.info? 32).map (·.size) = some 25 := by kernel_rfl
  have hu3 : Try.prog.underlying 39 = some (.array 32 5) := by kernel_rfl
  have hi3 : (Try.prog.info? 39).map (·.size) = some 32 := by kernel_rfl
  have HU := Lib.hid hu
  have HI := Lib.hid hi
  have HU2 := Lib.hid hu2
  have HI2 := Lib.hid hi2
  have HU3 := Lib.hid hu3
  have HI3 := Lib.hid hi3
  clear hu hi hu2 hi2 hu3 hi3
  generalize hln : xs.length = n at *
  go_enter Try.func15, Try.ntmps15
  go_wp2_with fail
  refine (HPD.out _ (by go_grown)).mono ?_
  rintro e wa ⟨A2, c, rfl, hs1, hc1, hb1, _⟩
  have hb0 : Below w.heap.size w wa := (World.below_alloc w _).trans (hb1.mono (by simp))
  have ho1 : Blk wa w.heap.size zero32 39 := by
    unfold Blk
    rw [hb1.block w.heap.size (by simp)]
    exact heap_alloc_new _ _
  have HS1 := Lib.hid hs1
  have hz1 := hb0.size
  have HB0 := Lib.hid hb0
  have HO1 := Lib.hid ho1
  have hlo1 := ho1.lt
  have hdv : (N : Int) / 136 = ((m : Nat) : Int) := by omega
  have hdv2 : N / 136 = m := by omega
  clear hb1 hb0 hs1 ho1 HPD hbm hNN hmm
  go_wp2_with fail
  go_loopw [5] (fun v wr => RsRel (padS xs) m wa v wr) (fun v _ => m - (intOf v).toNat)
  case atStart =>
    refine ⟨0, Nat.zero_le _, rfl, ?_, World.below_alloc wa _⟩
    rw [← zero25]
    exact heap_alloc_new _ _
  case round =>
    obtain ⟨k, hk, rfl, hblk, hb⟩ := hrel
    have hsz := hb.size
    have hlb := hblk.lt
    have HBB := Lib.hid hb
    have HBL := Lib.hid hblk
    have hSW := HS1.out.grow hb
    have HSW := Lib.hid hSW
    clear hb hblk hSW
    by_cases hlt : k < m
    · go_wp2_with fail
      refine (HBK.out A2 c k wr HSW.out hc1 hlt).mono ?_
      rintro e wb ⟨rfl, hb2⟩
      have hz2 := hb2.size
      have hak := absK_succ (padS xs) k
      have hXL : ∀ q, ob (blkF (padS xs) k) q < 2 ^ 64 := fun q => ob_lt (blkF_lt HPB.out k) q
      have hs8 := absK_len (padS xs) k
      have HB2 := Lib.hid hb2
      generalize ob (blkF (padS xs) k) = x at *
      have HNW := Lib.hid (show Blk (wb.alloc (.cells zero17 29)) wb.heap.size zero17 29 from heap_alloc_new _ _)
      clear hb2
      go_wp2_with (first
        | (refine wpList_store_row rfl 29 (.tmp 6) (.tmp 21) (by with_reducible rfl) _ _ rfl rfl _ _ HNW.out HI.out rfl (by simp [Value.oneCell', lanes]) ?_))
      refine wp_name fun V1 hV1 => ?_
      have hB1 : Below wa.heap.size wa V1 := by
        rw [hV1]
        exact below_setRow ((HBB.out.trans (HB2.out.mono hsz)).trans ((World.below_alloc wb _).mono (by omega))) (by omega) _
      have hx1 : Blk V1 wb.heap.size (lanes x) 29 := by rw [hV1]; exact setRow_heap _ _ _ _ _ _ HNW.out
      have hs1 : Blk V1 wa.heap.size (bvA (absK (padS xs) k)) 32 := by
        rw [hV1]
        exact (setRow_other _ _ _ _ (by omega)).trans ((HBL.out.grow HB2.out).grow (World.below_alloc _ _))
      have HB1 := Lib.hid hB1
      have HX1 := Lib.hid hx1
      have HS2 := Lib.hid hs1
      have hlx := hx1.lt
      generalize wb.heap.size = bx at *
      generalize absK (padS xs) k = s at *
      have HAK := Lib.hid hak
      have HXL := Lib.hid hXL
      clear hV1 hB1 hx1 hs1 hak hXL HBL HBB HB2 HNW
      go_loopw [7] (fun v wr => RxRel s x wa.heap.size bx V1 v wr) (fun v _ => 17 - (intOf v).toNat)
      case atStart => exact ⟨0, Nat.zero_le _, rfl, by rw [xorK_zero]; exact HS2.out, HX1.out, grownBy_refl _ _⟩
      case round =>
        rename_i wr
        obtain ⟨j, hj, rfl, hblk, hbx, hgr⟩ := hrel
        have hle := xorK_len s x j
        rw [hs8] at hle
        have hlb := hblk.lt
        have hlx' := hbx.lt
        by_cases hlt' : j < 17
        · have HGR := Lib.hid hgr
          clear hgr
          go_wp2_with fail
          go_wp2_with fail
          refine wp_region_grow wr.heap.size 9 0 0 [(0, 0, 67108864, 128), (1, 0, 134217728, 128), (2, 2, 268435456, 134217744), (3, 4, 536870912, 268435456), (4, 0, 1073741824, 128), (5, 16, 2147483648, 1073741888), (6, 32, 4294967296, 2147483648), (7, 72, 8589934592, 4831838208), (8, 255, 17179869184, 67108880), (9, 511, 0, 25769803776)] [(.p 0, 1), (.p 1, 3), (.p 2, 7), (.p 3, 15), (.p 4, 31), (.p 5, 63), (.p 6, 127), (.p 7, 255), (.p 8, 511)] [(9, 1023)] _ (fun p hp => hp) (by first | omega | (simp; done) | (simp; omega)) (by kernel_rfl) (by kernel_rfl) (Own.cons hbx (own1 hblk)) ?_
          refine wpG_move (i := 0) rfl rfl rfl (by rfl) rfl ?_
          simp only [List.set_cons_zero, List.set_cons_succ]
          refine wpG_move (i := 1) rfl rfl rfl (by rfl) rfl ?_
          simp only [List.set_cons_zero, List.set_cons_succ]
          refine wpG_pure (i := 2) (v := ?v1x2) rfl rfl (by rfl) (fun w hB hG K hK => ?h1x2) ?_
          case h1x2 =>
            go_wp2_with fail
            exact hK _ (Below.refl _ _)
          simp only [List.set_cons_zero, List.set_cons_succ]
          refine wpG_pure (i := 3) (v := ?v1x3) rfl rfl (by rfl) (fun w hB hG K hK => ?h1x3) ?_
          case h1x3 =>
            have hcx := (hG.cell 1 rfl j).trans (bvA_at (xorK s x j) (show j < (xorK s x j).length by omega))
            have cx := Own.cell hG 1 rfl
            go_wp2_with fail
            exact hK _ (Below.refl _ _)
          simp only [List.set_cons_zero, List.set_cons_succ]
          refine wpG_move (i := 4) rfl rfl rfl (by rfl) rfl ?_
          simp only [List.set_cons_zero, List.set_cons_succ]
          refine wpG_pure (i := 5) (v := ?v1x5) rfl rfl (by rfl) (fun w hB hG K hK => ?h1x5) ?_
          case h1x5 =>
            go_wp2_with fail
            exact hK _ (Below.refl _ _)
          simp only [List.set_cons_zero, List.set_cons_succ]
          refine wpG_pure (i := 6) (v := ?v1x6) rfl rfl (by rfl) (fun w hB hG K hK => ?h1x6) ?_
          case h1x6 =>
            have hcy := (hG.cell 0 rfl j).trans (lanes_at x (show j < 17 by omega))
            have cx := Own.cell hG 0 rfl
            go_wp2_with fail
            exact hK _ (Below.refl _ _)
          simp only [List.set_cons_zero, List.set_cons_succ]
          refine wpG_pure (i := 7) (v := ?v1x7) rfl rfl (by rfl) (fun w hB hG K hK => ?h1x7) ?_
          case h1x7 =>
            go_wp2_with fail
            exact hK _ (Below.refl _ _)
          simp only [List.set_cons_zero, List.set_cons_succ]
          refine wpG_pure (i := 8) (v := ?v1x8) rfl rfl (by rfl) (fun w hB hG K hK => ?h1x8) ?_
          case h1x8 =>
            go_wp2_with fail
            exact hK _ (Below.refl _ _)
          simp only [List.set_cons_zero, List.set_cons_succ]
          refine wpG_nil (fun w1 hb1 hG1 => ?_)
          simp only [List.append_eq, List.cons_append, List.nil_append, List.drop_succ_cons, List.drop_zero, List.drop_nil]
          have O1 := Own.of hG1
          try simp only [List.setIfInBounds_toArray, List.set_cons_zero, List.set_cons_succ] at O1
          have bw1 : Below wr.heap.size wr w1 := Below.trans (by go_grown) (Below.mono hb1 (by first | omega | (simp; done) | (simp; omega)))
          have zw1 := Below.size hb1
          try simp only [World.size_alloc, World.size_drew, World.size_setCell] at zw1
          have c1x0 := Own.cell O1 0 rfl
          have f1x0 := Own.free O1 0 rfl
          have l1x0 := Own.lt O1 0 rfl
          have l1x0d0 := le_up 0 l1x0
          have l1x0d1 := le_up 1 l1x0
          simp only [upN] at l1x0d0 l1x0d1
          have c1x1 := Own.cell O1 1 rfl
          have f1x1 := Own.free O1 1 rfl
          have l1x1 := Own.lt O1 1 rfl
          have l1x1d0 := le_up 0 l1x1
          have l1x1d1 := le_up 1 l1x1
          simp only [upN] at l1x1d0 l1x1d1
          have HO1 := Lib.hid O1
          clear O1 hb1

          have hcs := (HO1.out.cell 1 rfl j).trans (bvA_at (xorK s x j) (show j < (xorK s x j).length by omega))
          have hfs := HO1.out.free 1 rfl j
          have hxor := xor_bv (nth (xorK s x j) j) (HXL.out j)
          have hbk := (HO1.out.get 1 rfl).set j (.int .u64 ((nth (xorK s x j) j ^^^ BitVec.ofNat 64 (x j)).toNat : Int))
          rw [bvA_set, xorK_succ] at hbk
          have HK := Lib.hid hbk
          have HX3 := Lib.hid (Blk.other (HO1.out.get 0 rfl) (show bx ≠ wa.heap.size by omega) j (.int .u64 ((nth (xorK s x j) j ^^^ BitVec.ofNat 64 (x j)).toNat : Int)))
          have HG3 := Lib.hid (grownBy_setr (grownBy_trans HGR.out (grownBy_below bw1 (some wa.heap.size))) wa.heap.size j (.int .u64 ((nth (xorK s x j) j ^^^ BitVec.ofNat 64 (x j)).toNat : Int)))
          clear hbk bw1 c1x1 c1x0
          go_wp2_with fail
          exact ⟨⟨j + 1, by omega, by go_num, HK.out, HX3.out, HG3.out⟩, by simp [intOf]; omega⟩
        · obtain rfl : j = 17 := by omega
          have hB4 : Below wa.heap.size wa wr := HB1.out.grown hgr HB1.out.size (fun k e => by cases e; exact Nat.le_refl _)
          have HB4 := Lib.hid hB4
          have HBK4 := Lib.hid hblk
          clear hgr hB4 hblk hbx
          go_wp2_with (first
            | (refine wpList_load_row rfl 32 (.tmp 4) (by with_reducible rfl) _ rfl _ _ (0, 0) _ HBK4.out HU2.out rfl (HI2.out.trans (congrArg some (bvA_size hle).symm)) ?_))
          refine (refturn_calls (l := xorK s x 17) hle wr).mono ?_
          rintro e wd ⟨rfl, hb4⟩
          have HW4 := Lib.hid (HBK4.out.grow hb4)
          have HB5 := Lib.hid (HB4.out.trans (hb4.mono HB4.out.size))
          clear hb4
          go_wp2_with (first
            | (refine wpList_store_row rfl 32 (.tmp 4) (.tmp 36) (by with_reducible rfl) _ _ rfl rfl _ _ HW4.out (HI2.out.trans (congrArg some (bvA_size (turnS_len _ hle)).symm)) ((bvA_size hle).trans (bvA_size (turnS_len _ hle)).symm) (bvA_one _) ?_))
          refine ⟨⟨k + 1, by omega, by go_num, ?_, below_setRow HB5.out (Nat.le_refl _) _⟩, by simp [intOf]; omega⟩
          rw [← HAK.out]
          exact setRow_heap _ _ _ _ _ _ HW4.out
    · obtain rfl : k = m := by omega
      go_wp2_with fail
      refine wp_name fun V2 hV2 => ?_
      have hs8 := absK_len (padS xs) k
      have hB1 : Below wa.heap.size wa V2 := by rw [hV2]; exact HBB.out.trans ((World.below_alloc wr _).mono hsz)
      have hs1 : Blk V2 wa.heap.size (bvA (absK (padS xs) k)) 32 := by rw [hV2]; exact HBL.out.grow (World.below_alloc _ _)
      have ho1 : Blk V2 wr.heap.size zero32 39 := by rw [hV2]; exact heap_alloc_new _ _
      have HB1 := Lib.hid hB1
      have HX1 := Lib.hid ho1
      have HS2 := Lib.hid hs1
      generalize wr.heap.size = bo at *
      generalize absK (padS xs) k = s at *
      clear hV2 hB1 hs1 ho1 HBL HBB
      go_loopw [9] (fun v wr => RoRel s wa.heap.size bo V2 v wr) (fun v _ => 32 - (intOf v).toNat)
      case atStart => exact ⟨0, Nat.zero_le _, rfl, by rw [outG_zero]; exact HX1.out, HS2.out, grownBy_refl _ _⟩
      case round =>
        rename_i wr
        obtain ⟨i, hi, rfl, ho, hs, hgr⟩ := hrel
        have hlo := ho.lt
        by_cases hlt' : i < 32
        · have hcs := (hs.cell (i / 8)).trans (bvA_at s (show i / 8 < s.length by omega))
          have hco := (ho.cell i).trans (arr32_at (outG s i) hlt')
          have hfo := ho.free i
          have hv : ((stB s i : Nat) : Int) = ((nth s (i / 8)).toNat : Int) / 2 ^ (8 * (i % 8)) % 256 := by unfold stB byteAt; simp
          have hbk := Blk.set ho i (.int .u8 ((stB s i : Nat) : Int))
          rw [outG_step s i hlt', hv] at hbk
          have HK := Lib.hid hbk
          have HS3 := Lib.hid (Blk.other hs (show wa.heap.size ≠ bo by omega) i (.int .u8 (((nth s (i / 8)).toNat : Int) / 2 ^ (8 * (i % 8)) % 256)))
          have HG3 := Lib.hid (grownBy_setr hgr bo i (.int .u8 (((nth s (i / 8)).toNat : Int) / 2 ^ (8 * (i % 8)) % 256)))
          clear hbk hs ho hgr hv
          go_wp2_with fail
          exact ⟨⟨i + 1, by omega, by go_num, HK.out, HS3.out, HG3.out⟩, by simp [intOf]; omega⟩
        · obtain rfl : i = 32 := by omega
          rw [outG_end] at ho
          have hB4 : Below w.heap.size w wr := (HB0.out.trans (HB1.out.mono hz1)).grown hgr (by have := HB1.out.size; omega) (fun k e => by cases e; omega)
          have hb2 : Blk wr w.heap.size zero32 39 := own_grown (H := [(w.heap.size, zero32, 39)]) (fun p hp => by
            rw [List.mem_singleton] at hp
            subst hp
            exact (HB1.out.block w.heap.size hlo1).trans HO1.out) hgr (by simp only [List.mem_singleton, forall_eq]; omega) _ (List.mem_singleton.2 rfl)
          have HSG2 := Lib.hid (show arr32 (fun j => ((stB s j : Nat) : Int)) = arr32 fun j => ((sumG xs j : Nat) : Int) from arr32_congr fun j _ => by rw [HSG.out])
          have H3 := Lib.hid ho
          have H2 := Lib.hid hb2
          have HB4 := Lib.hid hB4
          clear ho hb2 hgr hB4 hs
          go_wp2_with (first
            | (refine wpList_load_row rfl 39 (.tmp 8) (by with_reducible rfl) _ rfl _ _ (0, 0) _ H3.out HU3.out rfl HI3.out ?_)
            | (refine wpList_store_row rfl 39 (.tmp 2) (.tmp 53) (by with_reducible rfl) _ _ rfl rfl _ _ H2.out HI3.out rfl (by simp [Value.oneCell']) ?_))
          refine bodyPost_ret (results_cell_row (p := 2) (ty := 39) rfl _ _ w.heap.size _ _ (0, 0) _ rfl (setRow_heap _ _ _ _ _ _ H2.out) HU3.out rfl HI3.out) rfl ?_
          exact ⟨by rw [HSG2.out], below_setRow HB4.out (Nat.le_refl _) _⟩
end Go.Proofs.Ytojmifniidddpaa
