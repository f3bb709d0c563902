/- Products of words, by the document. No condition. -/
import Derived.Test.YtjlijocnmicdpaaRefA
set_option linter.unusedVariables false
set_option linter.unusedSimpArgs false
namespace Go.Proofs.Ytjlijocnmicdpaa
open Go.RowKit

def mulF (Z Z' n : Nat) : Nat → Int := fun j => if 31 - j < n then ((dig Z' (31 - j) : Nat) : Int) else ((dig Z (31 - j) : Nat) : Int)
theorem dig_low (Z t i j : Nat) (h : j < i) : dig (Z + t * 256 ^ i) j = dig Z j := by
  unfold dig
  have e : t * 256 ^ i = 256 ^ j * (256 * (t * 256 ^ (i - j - 1))) := by
    rw [show i = j + 1 + (i - j - 1) by omega, Nat.pow_add, Nat.pow_add, show j + 1 + (i - j - 1) - j - 1 = i - j - 1 by omega]
    simp only [Nat.pow_one]
    ac_rfl
  rw [e, Nat.add_mul_div_left _ _ (Nat.pow_pos (by decide)), Nat.add_mul_mod_self_left]
theorem mulF_zero (Z t i : Nat) : arr32 (mulF Z (Z + t * 256 ^ i) (i + 0)) = arr32 fun j => ((dig Z (31 - j) : Nat) : Int) := arr32_congr fun j hj => by
  unfold mulF
  split
  · rename_i h
    rw [dig_low Z t i _ (by omega)]
  · rfl
theorem mulF_end (Z Z' : Nat) : arr32 (mulF Z Z' 32) = arr32 fun j => ((dig Z' (31 - j) : Nat) : Int) := arr32_congr fun j hj => by unfold mulF; rw [if_pos (by omega)]
theorem mulF_at {Z Z' n m : Nat} (h : m + n = 31) : mulF Z Z' n m = ((dig Z n : Nat) : Int) := by unfold mulF; rw [if_neg (by omega), show 31 - m = n by omega]
theorem mulF_step {Z Z' n m : Nat} (h : m + n = 31) : (arr32 (mulF Z Z' n)).setIfInBounds m (.int .u8 ((dig Z' n : Nat) : Int)) = arr32 (mulF Z Z' (n + 1)) := by
  rw [arr32_set]
  refine arr32_congr fun j hj => ?_
  unfold mulF
  by_cases hjm : j = m
  · subst hjm; rw [if_pos rfl, if_pos (by omega), show 31 - j = n by omega]
  · rw [if_neg hjm]
    by_cases h2 : 31 - j < n
    · rw [if_pos h2, if_pos (by omega)]
    · rw [if_neg h2, if_neg (by omega)]
theorem cMul_le (Z x Y i k : Nat) (hx : x < 256) : cMul 256 Z x Y i k ≤ 255 := by
  unfold cMul
  have hP : 0 < 256 ^ (i + k) := Nat.pow_pos (by decide)
  have h1 := Nat.mod_lt Z hP
  have h2 : Y % 256 ^ k ≤ 256 ^ k - 1 := by have := Nat.mod_lt Y (show 0 < 256 ^ k from Nat.pow_pos (by decide)); omega
  have h3 : x * (Y % 256 ^ k) * 256 ^ i ≤ 255 * ((256 ^ k - 1) * 256 ^ i) := by
    rw [Nat.mul_assoc]
    exact Nat.mul_le_mul (by omega) (Nat.mul_le_mul_right _ h2)
  have h4 : (256 ^ k - 1) * 256 ^ i ≤ 256 ^ (i + k) - 1 := by
    have h5 : 0 < 256 ^ i := Nat.pow_pos (by decide)
    rw [Nat.sub_mul, Nat.one_mul, Nat.pow_add, Nat.mul_comm (256 ^ k)]
    omega
  have : (Z % 256 ^ (i + k) + x * (Y % 256 ^ k) * 256 ^ i) / 256 ^ (i + k) < 256 := Nat.div_lt_of_lt_mul (by omega)
  omega
/-- What so many rows come to. -/
def rowsN (X Y i : Nat) : Nat := X % 256 ^ i * Y
theorem rowsN_zero (X Y : Nat) : rowsN X Y 0 = 0 := by unfold rowsN; rw [Nat.pow_zero, Nat.mod_one, Nat.zero_mul]
theorem rowsN_succ (X Y i : Nat) : rowsN X Y (i + 1) = rowsN X Y i + dig X i * Y * 256 ^ i := by
  unfold rowsN dig
  rw [mod_succ, Nat.add_mul]
  congr 1
  ac_rfl
theorem rowsN_end (x y : BitVec 256) : rowsN x.toNat y.toNat 32 = x.toNat * y.toNat := by
  unfold rowsN
  rw [Nat.mod_eq_of_lt (by rw [pow256]; exact x.isLt)]
theorem dig_zero (j : Nat) : dig 0 j = 0 := by simp [dig]
def MulRel (X Y b : Nat) (V : World) (i : Value) (wr : World) : Prop :=
  ∃ k : Nat, k ≤ 32 ∧ i = .int .i64 (k : Int) ∧ Blk wr b (arr32 fun j => ((dig (rowsN X Y k) (31 - j) : Nat) : Int)) 106 ∧ V.grownBy wr (some b)
def MulIn (Z x Y i b : Nat) (V : World) (c kk : Value) (wr : World) : Prop :=
  ∃ k : Nat, i + k ≤ 32 ∧ kk = .int .i64 (k : Int) ∧ c = .int .i64 (cMul 256 Z x Y i k : Nat) ∧ Blk wr b (arr32 (mulF Z (Z + x * Y * 256 ^ i) (i + k))) 106 ∧ V.grownBy wr (some b)
set_option maxRecDepth 20000 in
set_option maxHeartbeats 8000000 in
theorem refMulW (x y : BitVec 256) (w : World) : Calls Try.prog 59 #[W x, W y] w fun e w' => e = .returned (W (x * y)) ∧ Below w.heap.size w w' := by
  have hi3 : (Try.prog.info? 106).map (·.size) = some 32 := by kernel_rfl
  have hu3 : Try.prog.underlying 106 = some (.array 32 5) := by kernel_rfl
  have HI3 := Lib.hid hi3
  have HU3 := Lib.hid hu3
  have HBx := Lib.hid (fun V => refBytesW x V)
  have HBy := Lib.hid (fun V => refBytesW y V)
  have HF := Lib.hid (fun V => show Calls Try.prog 58 #[.agg (arr32 fun j => ((dig (rowsN x.toNat y.toNat 32) (31 - j) : Nat) : Int))] V fun e w' => e = .returned (W (x * y)) ∧ Below V.heap.size V w' by rw [← ofNat_mul, rowsN_end]; exact refFromW _ V)
  clear hi3 hu3
  generalize x.toNat = X at *
  generalize y.toNat = Y at *
  go_enter Try.func59, Try.ntmps59
  go_wp2_with fail
  refine wp_region_grow w.heap.size 6 0 48 [(0, 0, 2048, 4), (1, 1, 4096, 2048), (2, 0, 8192, 8), (3, 6, 16384, 8192), (4, 0, 32, 0), (5, 0, 64, 0), (6, 59, 0, 4128), (7, 127, 0, 16448)] [(.p 0, 1), (.p 1, 3), (.p 2, 7), (.p 3, 15), (.gg 4 5, 63)] [(6, 127), (7, 255)] _ (fun p hp => hp) (by first | omega | (simp; done) | (simp; omega)) (by kernel_rfl) (by kernel_rfl) (Own.new (Own.new (Own.new (Own.nil w) (w.heap.size) (by first | rfl | simp)) (w.heap.size + 1) (by simp)) (w.heap.size + 1 + 1) (by simp)) ?_
  refine wpG_pure (i := 0) (v := ?v1x0) rfl rfl (by rfl) (fun w hB hG K hK => ?h1x0) ?_
  case h1x0 =>
    have cx := Own.cell hG 2 rfl
    go_wp2_with fail
    exact hK _ (Below.refl _ _)
  simp only [List.set_cons_zero, List.set_cons_succ]
  refine wpG_pure (i := 1) (v := ?v1x1) rfl rfl (by rfl) (fun w hB hG K hK => ?h1x1) ?_
  case h1x1 =>
    go_wp2_with fail
    refine (HBx.out _).mono ?_
    rintro e wx ⟨rfl, hbx⟩
    exact hK _ hbx
  simp only [List.set_cons_zero, List.set_cons_succ]
  refine wpG_pure (i := 2) (v := ?v1x2) rfl rfl (by rfl) (fun w hB hG K hK => ?h1x2) ?_
  case h1x2 =>
    have cx := Own.cell hG 1 rfl
    go_wp2_with fail
    exact hK _ (Below.refl _ _)
  simp only [List.set_cons_zero, List.set_cons_succ]
  refine wpG_pure (i := 3) (v := ?v1x3) rfl rfl (by rfl) (fun w hB hG K hK => ?h1x3) ?_
  case h1x3 =>
    go_wp2_with fail
    refine (HBy.out _).mono ?_
    rintro e wx ⟨rfl, hbx⟩
    exact hK _ hbx
  simp only [List.set_cons_zero, List.set_cons_succ]
  refine wpG_pair (i := 4) (j := 5) (c := ?c1x4) (t := ?t1x4) (c2 := ?c1x5) (t2 := ?t1x5) (fun b => .pointer (some ⟨b, 0, none⟩)) (fun b => .pointer (some ⟨b, 0, none⟩)) rfl rfl rfl rfl (by rfl) (by rfl) (fun w hB hG K hK => ?h1x4) (fun w hB hG K hK => ?h1x5) (fun v1g1 v1g2 l1g1 l1g2 n1g1 _ _ => ?_)
  case h1x4 =>
    go_wp2_with fail
    exact hK
  case h1x5 =>
    go_wp2_with fail
    exact hK
  simp only [List.set_cons_zero, List.set_cons_succ]
  try simp only [World.size_alloc, World.size_drew, World.size_setCell] at l1g1
  try simp only [World.size_alloc, World.size_drew, World.size_setCell] at l1g2
  refine wpG_nil (fun w1 hb1 hG1 => ?_)
  simp only [List.append_eq, List.cons_append, List.nil_append, List.drop_succ_cons, List.drop_zero, List.drop_nil]
  have u1g1 := Own.lt hG1 1 rfl
  have u1g2 := Own.lt hG1 0 rfl
  have O1 := Own.of hG1
  try simp only [List.setIfInBounds_toArray, List.set_cons_zero, List.set_cons_succ] at O1
  have bw1 : Below w.heap.size w w1 := Below.trans (by go_grown) (Below.mono hb1 (by first | omega | (simp; done) | (simp; omega)))
  have zw1 := Below.size hb1
  try simp only [World.size_alloc, World.size_drew, World.size_setCell] at zw1
  have c1x0 := Own.cell O1 0 rfl
  have f1x0 := Own.free O1 0 rfl
  have l1x0 := Own.lt O1 0 rfl
  have l1x0d0 := le_up 0 l1x0
  have l1x0d1 := le_up 1 l1x0
  simp only [upN] at l1x0d0 l1x0d1
  have c1x1 := Own.cell O1 1 rfl
  have f1x1 := Own.free O1 1 rfl
  have l1x1 := Own.lt O1 1 rfl
  have l1x1d0 := le_up 0 l1x1
  have l1x1d1 := le_up 1 l1x1
  simp only [upN] at l1x1d0 l1x1d1
  have c1x2 := Own.cell O1 2 rfl
  have f1x2 := Own.free O1 2 rfl
  have l1x2 := Own.lt O1 2 rfl
  have l1x2d0 := le_up 0 l1x2
  have l1x2d1 := le_up 1 l1x2
  simp only [upN] at l1x2d0 l1x2d1
  have c1x3 := Own.cell O1 3 rfl
  have f1x3 := Own.free O1 3 rfl
  have l1x3 := Own.lt O1 3 rfl
  have l1x3d0 := le_up 0 l1x3
  have l1x3d1 := le_up 1 l1x3
  simp only [upN] at l1x3d0 l1x3d1
  have c1x4 := Own.cell O1 4 rfl
  have f1x4 := Own.free O1 4 rfl
  have l1x4 := Own.lt O1 4 rfl
  have l1x4d0 := le_up 0 l1x4
  have l1x4d1 := le_up 1 l1x4
  simp only [upN] at l1x4d0 l1x4d1
  have HO1 := Lib.hid O1
  clear O1 hb1
  go_upto_region 2 with (first | (refine wpList_store_row rfl 106 (.tmp 5) (.tmp 12) (by with_reducible rfl) _ _ rfl rfl _ _ (Own.get HO1.out 1 rfl) HI3.out rfl (by simp [Value.oneCell']) ?_) | (refine wpList_store_row rfl 106 (.tmp 6) (.tmp 14) (by with_reducible rfl) _ _ rfl rfl _ _ ((setRow_other _ _ _ _ (by omega)).trans (Own.get HO1.out 0 rfl)) HI3.out rfl (by simp [Value.oneCell']) ?_))
  refine wp_name fun V hV => ?_
  have hx : Blk V v1g1 (arr32 fun j => ((dig X (31 - j) : Nat) : Int)) 106 := by
    rw [hV]
    exact (setRow_other _ _ _ _ (by omega)).trans (setRow_heap _ _ _ _ _ _ (Own.get HO1.out 1 rfl))
  have hy : Blk V v1g2 (arr32 fun j => ((dig Y (31 - j) : Nat) : Int)) 106 := by
    rw [hV]
    exact setRow_heap _ _ _ _ _ _ ((setRow_other _ _ _ _ (by omega)).trans (Own.get HO1.out 0 rfl))
  have hz : Blk V (w.heap.size + 2) #[.int .u64 0, .int .u64 0, .int .u64 0, .int .u64 0] 80 := by
    rw [hV]
    exact (setRow_other _ _ _ _ (by omega)).trans ((setRow_other _ _ _ _ (by omega)).trans (Own.get HO1.out 2 rfl))
  have hB : Below w.heap.size w V := by
    rw [hV]
    exact below_setRow (below_setRow bw1 (by omega) _) (by omega) _
  have hne : v1g1 ≠ v1g2 := by omega
  have hne2 : w.heap.size + 2 ≠ v1g1 := by omega
  have hle : w.heap.size ≤ v1g1 := by omega
  have HX := Lib.hid hx
  have HY := Lib.hid hy
  have HZ := Lib.hid hz
  have HB := Lib.hid hB
  have hl5 := hx.lt
  have hl6 := hy.lt
  have hlz := hz.lt
  clear hV hx hy hz hB HO1 bw1 c1x0 f1x0 l1x0 l1x0d0 l1x0d1 c1x1 f1x1 l1x1 l1x1d0 l1x1d1 c1x2 f1x2 l1x2 l1x2d0 l1x2d1 c1x3 f1x3 l1x3 l1x3d0 l1x3d1 c1x4 f1x4 l1x4 l1x4d0 l1x4d1
  generalize v1g1 = b5 at *
  generalize v1g2 = b6 at *
  try clear zw1
  go_upto_region 3 with (fail)
  refine wp_name fun U hU => ?_
  have hb7 : Blk U V.heap.size (arr32 fun _ => 0) 106 := by rw [hU]; exact heap_alloc_new _ _
  have hx : Blk U b5 (arr32 fun j => ((dig X (31 - j) : Nat) : Int)) 106 := by rw [hU]; exact HX.out.grow (World.below_alloc _ _)
  have hy : Blk U b6 (arr32 fun j => ((dig Y (31 - j) : Nat) : Int)) 106 := by rw [hU]; exact HY.out.grow (World.below_alloc _ _)
  have hz : Blk U (w.heap.size + 2) #[.int .u64 0, .int .u64 0, .int .u64 0, .int .u64 0] 80 := by rw [hU]; exact HZ.out.grow (World.below_alloc _ _)
  have hB : Below w.heap.size w U := by rw [hU]; exact HB.out.trans ((World.below_alloc _ _).mono HB.out.size)
  have hle7 : w.heap.size ≤ V.heap.size := HB.out.size
  have hn5 : b5 ≠ V.heap.size := by omega
  have hn6 : b6 ≠ V.heap.size := by omega
  have hnz : w.heap.size + 2 ≠ V.heap.size := by omega
  have HX2 := Lib.hid hx
  have HY2 := Lib.hid hy
  have HZ2 := Lib.hid hz
  have HB2 := Lib.hid hB
  have HB7 := Lib.hid hb7
  clear hU hx hy hz hB hb7 HX HY HZ HB
  generalize V.heap.size = b7 at *
  go_wp2_with fail
  go_loopw [8, 9, 10] (fun i _ _ wr => MulRel X Y b7 U i wr) (fun i _ _ _ => 32 - (intOf i).toNat)
  case atStart => exact ⟨0, Nat.zero_le _, rfl, by rw [rowsN_zero]; simp only [dig_zero]; exact HB7.out, grownBy_refl _ _⟩
  case round =>
    obtain ⟨i, hi, rfl, hblk, hgr⟩ := hrel
    by_cases hlt : i < 32
    · obtain ⟨p, hp⟩ : ∃ p, p + i = 31 := ⟨31 - i, by omega⟩
      have hdx := dig_lt X i
      have HRS := Lib.hid (rowsN_succ X Y i)
      have hcx0 : (arr32 fun j => ((dig X (31 - j) : Nat) : Int))[p]? = some (.int .u8 ((dig X i : Nat) : Int)) := by rw [arr32_at _ (by omega), show 31 - p = i by omega]
      have HBK := Lib.hid hblk
      have HGR := Lib.hid hgr
      have HGO := Lib.hid (fun x (b : Value) (wr : World) (h : Blk wr b7 x 106) => h)
      generalize hZ1 : rowsN X Y (i + 1) = Z1 at *
      generalize rowsN X Y i = Z at *
      generalize dig X i = dx at *
      clear hblk hgr
      go_wp2_with fail
      go_loopw [9, 10] (fun c kk wr' => MulIn Z dx Y i b7 wr c kk wr') (fun _ kk _ => 32 - (intOf kk).toNat)
      case atStart => exact ⟨0, by omega, rfl, by rw [cMul_zero _ _ _ _ _ (by decide)]; rfl, by rw [mulF_zero]; exact HBK.out, grownBy_refl _ _⟩
      case round =>
        obtain ⟨k, hk, rfl, rfl, hblk, hgr⟩ := hrel
        have hgg := grownBy_trans HGR.out hgr
        have hxb := blk_grown HX2.out hgg hn5
        have hyb := blk_grown HY2.out hgg hn6
        have hl7 := hblk.lt
        have hl5' := hxb.lt
        have hl6' := hyb.lt
        have HGI := Lib.hid hgr
        by_cases hlk : i + k < 32
        · obtain ⟨m, hm⟩ : ∃ m, m + (i + k) = 31 := ⟨31 - (i + k), by omega⟩
          obtain ⟨q, hq⟩ : ∃ q, q + k = 31 := ⟨31 - k, by omega⟩
          have hpi : (31 - (i : Int)) = (p : Int) := by omega
          have hpk : ((p : Int) - (k : Int)) = (m : Int) := by omega
          have hqk : (31 - (k : Int)) = (q : Int) := by omega
          have hstep := mulF_step (Z := Z) (Z' := Z + dx * Y * 256 ^ i) hm
          have hat := mulF_at (Z := Z) (Z' := Z + dx * Y * 256 ^ i) hm
          have hc1 := cMul_le Z dx Y i k hdx
          have hsu := cMul_succ 256 Z dx Y i k (by decide)
          have hdg := cMul_dig 256 Z dx Y i k (by decide)
          rw [show Z / 256 ^ (i + k) % 256 = dig Z (i + k) from rfl, show Y / 256 ^ k % 256 = dig Y k from rfl] at hsu hdg
          rw [show (Z + dx * Y * 256 ^ i) / 256 ^ (i + k) % 256 = dig (Z + dx * Y * 256 ^ i) (i + k) from rfl] at hdg
          have hdz := dig_lt Z (i + k)
          have hdy := dig_lt Y k
          have hmul : dx * dig Y k ≤ 255 * 255 := Nat.mul_le_mul (by omega) (by omega)
          have hcy0 : (arr32 fun j => ((dig Y (31 - j) : Nat) : Int))[q]? = some (.int .u8 ((dig Y k : Nat) : Int)) := by rw [arr32_at _ (by omega), show 31 - q = k by omega]
          have hcz0 : (arr32 (mulF Z (Z + dx * Y * 256 ^ i) (i + k)))[m]? = some (.int .u8 ((dig Z (i + k) : Nat) : Int)) := by rw [arr32_at _ (by omega), hat]
          have hik : i + (k + 1) = i + k + 1 := by omega
          rw [hik.symm] at hstep
          generalize hc1e : cMul 256 Z dx Y i (k + 1) = c1 at *
          generalize cMul 256 Z dx Y i k = c0 at *
          generalize dig Y k = dy at *
          generalize dig Z (i + k) = dz at *
          generalize dig (Z + dx * Y * 256 ^ i) (i + k) = dn at *
          generalize hAN : arr32 (mulF Z (Z + dx * Y * 256 ^ i) (i + (k + 1))) = AN at *
          generalize arr32 (mulF Z (Z + dx * Y * 256 ^ i) (i + k)) = AO at *
          generalize (arr32 fun j => ((dig Y (31 - j) : Nat) : Int)) = AY at *
          generalize (arr32 fun j => ((dig X (31 - j) : Nat) : Int)) = AX at *
          have hmi : ((dx : Int) * (dy : Int)) = ((dx * dy : Nat) : Int) := by simp
          generalize hxy : dx * dy = xy at *
          have hd1 : decide ((i : Int) + (k : Int) < 32) = true := by simp; omega
          clear hat hgr hgg
          go_wp2_with fail
          refine wp_region_grow wr.heap.size 21 0 0 [(0, 0, 33554432, 512), (1, 0, 67108864, 256), (2, 2, 134217728, 67108864), (3, 0, 268435456, 1024), (4, 12, 536870912, 402653184), (5, 16, 1073741824, 536871040), (6, 32, 2147483648, 1073741824), (7, 64, 4294967296, 2147483648), (8, 129, 8589934592, 4328521728), (9, 0, 17179869184, 256), (10, 512, 34359738368, 17179869184), (11, 1024, 68719476736, 34359738400), (12, 2048, 137438953472, 68719476736), (13, 4096, 274877906944, 137438953472), (14, 0, 549755813888, 1024), (15, 16384, 1099511627776, 549755813888), (16, 32768, 2199023255552, 1099511627840), (17, 65536, 4398046511104, 2199023255552), (18, 131072, 8796093022208, 4398046511104), (19, 270336, 17592186044416, 9070970929152), (20, 524544, 35184372088832, 17600775979008), (21, 2097151, 512, 35184372088832)] [(.p 0, 1), (.p 1, 3), (.p 2, 7), (.p 3, 15), (.p 4, 31), (.p 5, 63), (.p 6, 127), (.p 7, 255), (.p 8, 511), (.p 9, 1023), (.p 10, 2047), (.p 11, 4095), (.p 12, 8191), (.p 13, 16383), (.p 14, 32767), (.p 15, 65535), (.p 16, 131071), (.p 17, 262143), (.p 18, 524287), (.p 19, 1048575), (.p 20, 2097151)] [(21, 4194303)] _ (fun p hp => hp) (by first | omega | (simp; done) | (simp; omega)) (by kernel_rfl) (by kernel_rfl) (Own.cons hblk (Own.cons hxb (own1 hyb))) ?_
          refine wpG_move (i := 0) rfl rfl rfl (by rfl) rfl ?_
          simp only [List.set_cons_zero, List.set_cons_succ]
          refine wpG_move (i := 1) rfl rfl rfl (by rfl) rfl ?_
          simp only [List.set_cons_zero, List.set_cons_succ]
          refine wpG_pure (i := 2) (v := ?v16x2) rfl rfl (by rfl) (fun w hB hG K hK => ?h16x2) ?_
          case h16x2 =>
            go_wp2_with fail
            exact hK _ (Below.refl _ _)
          simp only [List.set_cons_zero, List.set_cons_succ]
          refine wpG_move (i := 3) rfl rfl rfl (by rfl) rfl ?_
          simp only [List.set_cons_zero, List.set_cons_succ]
          refine wpG_pure (i := 4) (v := ?v16x4) rfl rfl (by rfl) (fun w hB hG K hK => ?h16x4) ?_
          case h16x4 =>
            go_wp2_with fail
            exact hK _ (Below.refl _ _)
          simp only [List.set_cons_zero, List.set_cons_succ]
          refine wpG_pure (i := 5) (v := ?v16x5) rfl rfl (by rfl) (fun w hB hG K hK => ?h16x5) ?_
          case h16x5 =>
            go_wp2_with fail
            exact hK _ (Below.refl _ _)
          simp only [List.set_cons_zero, List.set_cons_succ]
          refine wpG_pure (i := 6) (v := ?v16x6) rfl rfl (by rfl) (fun w hB hG K hK => ?h16x6) ?_
          case h16x6 =>
            have hcz := (hG.cell 0 rfl m).trans hcz0
            have cx := Own.cell hG 0 rfl
            go_wp2_with fail
            exact hK _ (Below.refl _ _)
          simp only [List.set_cons_zero, List.set_cons_succ]
          refine wpG_pure (i := 7) (v := ?v16x7) rfl rfl (by rfl) (fun w hB hG K hK => ?h16x7) ?_
          case h16x7 =>
            go_wp2_with fail
            exact hK _ (Below.refl _ _)
          simp only [List.set_cons_zero, List.set_cons_succ]
          refine wpG_pure (i := 8) (v := ?v16x8) rfl rfl (by rfl) (fun w hB hG K hK => ?h16x8) ?_
          case h16x8 =>
            go_wp2_with fail
            exact hK _ (Below.refl _ _)
          simp only [List.set_cons_zero, List.set_cons_succ]
          refine wpG_move (i := 9) rfl rfl rfl (by rfl) rfl ?_
          simp only [List.set_cons_zero, List.set_cons_succ]
          refine wpG_pure (i := 10) (v := ?v16x10) rfl rfl (by rfl) (fun w hB hG K hK => ?h16x10) ?_
          case h16x10 =>
            go_wp2_with fail
            exact hK _ (Below.refl _ _)
          simp only [List.set_cons_zero, List.set_cons_succ]
          refine wpG_pure (i := 11) (v := ?v16x11) rfl rfl (by rfl) (fun w hB hG K hK => ?h16x11) ?_
          case h16x11 =>
            go_wp2_with fail
            exact hK _ (Below.refl _ _)
          simp only [List.set_cons_zero, List.set_cons_succ]
          refine wpG_pure (i := 12) (v := ?v16x12) rfl rfl (by rfl) (fun w hB hG K hK => ?h16x12) ?_
          case h16x12 =>
            have hcx := (hG.cell 1 rfl p).trans hcx0
            have cx := Own.cell hG 1 rfl
            go_wp2_with fail
            exact hK _ (Below.refl _ _)
          simp only [List.set_cons_zero, List.set_cons_succ]
          refine wpG_pure (i := 13) (v := ?v16x13) rfl rfl (by rfl) (fun w hB hG K hK => ?h16x13) ?_
          case h16x13 =>
            go_wp2_with fail
            exact hK _ (Below.refl _ _)
          simp only [List.set_cons_zero, List.set_cons_succ]
          refine wpG_move (i := 14) rfl rfl rfl (by rfl) rfl ?_
          simp only [List.set_cons_zero, List.set_cons_succ]
          refine wpG_pure (i := 15) (v := ?v16x15) rfl rfl (by rfl) (fun w hB hG K hK => ?h16x15) ?_
          case h16x15 =>
            go_wp2_with fail
            exact hK _ (Below.refl _ _)
          simp only [List.set_cons_zero, List.set_cons_succ]
          refine wpG_pure (i := 16) (v := ?v16x16) rfl rfl (by rfl) (fun w hB hG K hK => ?h16x16) ?_
          case h16x16 =>
            go_wp2_with fail
            exact hK _ (Below.refl _ _)
          simp only [List.set_cons_zero, List.set_cons_succ]
          refine wpG_pure (i := 17) (v := ?v16x17) rfl rfl (by rfl) (fun w hB hG K hK => ?h16x17) ?_
          case h16x17 =>
            have hcy := (hG.cell 2 rfl q).trans hcy0
            have cx := Own.cell hG 2 rfl
            go_wp2_with fail
            exact hK _ (Below.refl _ _)
          simp only [List.set_cons_zero, List.set_cons_succ]
          refine wpG_pure (i := 18) (v := ?v16x18) rfl rfl (by rfl) (fun w hB hG K hK => ?h16x18) ?_
          case h16x18 =>
            go_wp2_with fail
            exact hK _ (Below.refl _ _)
          simp only [List.set_cons_zero, List.set_cons_succ]
          refine wpG_pure (i := 19) (v := ?v16x19) rfl rfl (by rfl) (fun w hB hG K hK => ?h16x19) ?_
          case h16x19 =>
            go_wp2_with fail
            exact hK _ (Below.refl _ _)
          simp only [List.set_cons_zero, List.set_cons_succ]
          refine wpG_pure (i := 20) (v := ?v16x20) rfl rfl (by rfl) (fun w hB hG K hK => ?h16x20) ?_
          case h16x20 =>
            go_wp2_with fail
            exact hK _ (Below.refl _ _)
          simp only [List.set_cons_zero, List.set_cons_succ]
          refine wpG_nil (fun w16 hb16 hG16 => ?_)
          simp only [List.append_eq, List.cons_append, List.nil_append, List.drop_succ_cons, List.drop_zero, List.drop_nil]
          have O16 := Own.of hG16
          try simp only [List.setIfInBounds_toArray, List.set_cons_zero, List.set_cons_succ] at O16
          have bw16 : Below wr.heap.size wr w16 := Below.trans (by go_grown) (Below.mono hb16 (by first | omega | (simp; done) | (simp; omega)))
          have zw16 := Below.size hb16
          try simp only [World.size_alloc, World.size_drew, World.size_setCell] at zw16
          have c16x0 := Own.cell O16 0 rfl
          have f16x0 := Own.free O16 0 rfl
          have l16x0 := Own.lt O16 0 rfl
          have l16x0d0 := le_up 0 l16x0
          have l16x0d1 := le_up 1 l16x0
          simp only [upN] at l16x0d0 l16x0d1
          have c16x1 := Own.cell O16 1 rfl
          have f16x1 := Own.free O16 1 rfl
          have l16x1 := Own.lt O16 1 rfl
          have l16x1d0 := le_up 0 l16x1
          have l16x1d1 := le_up 1 l16x1
          simp only [upN] at l16x1d0 l16x1d1
          have c16x2 := Own.cell O16 2 rfl
          have f16x2 := Own.free O16 2 rfl
          have l16x2 := Own.lt O16 2 rfl
          have l16x2d0 := le_up 0 l16x2
          have l16x2d1 := le_up 1 l16x2
          simp only [upN] at l16x2d0 l16x2d1
          have HO16 := Lib.hid O16
          clear O16 hb16
          have hcs := (HO16.out.cell 0 rfl m).trans hcz0
          have hfs := HO16.out.free 0 rfl m
          have hbk := (HO16.out.get 0 rfl).set m (.int .u8 ((dn : Nat) : Int))
          rw [hstep] at hbk
          have HK := Lib.hid hbk
          have HG3 := Lib.hid (grownBy_setr (grownBy_trans HGI.out (grownBy_below bw16 (some b7))) b7 m (.int .u8 ((dn : Nat) : Int)))
          have hz1 : ((c0 : Int) + dz + xy) % 256 = ((dn : Nat) : Int) := by omega
          have hz2 : ((c0 : Int) + dz + xy) / 256 = ((c1 : Nat) : Int) := by omega
          clear hbk bw16 hsu hdg hcx0 hcy0 hcz0 hstep c16x0 c16x1 c16x2
          go_wp2_with fail
          refine ⟨⟨k + 1, by omega, by go_num, ?_, by rw [hAN]; exact HK.out, HG3.out⟩, by simp only [intOf]; omega⟩
          rw [hc1e]
          exact congrArg (Value.int .i64) (by omega)
        · have hik : i + k = 32 := by omega
          have hd1 : decide ((i : Int) + (k : Int) < 32) = false := by simp; omega
          rw [hik, mulF_end, ← HRS.out] at hblk
          have HG3 := Lib.hid (grownBy_trans HGR.out hgr)
          have HK := Lib.hid hblk
          clear hgg hxb hyb hblk hgr
          go_wp2_with fail
          exact ⟨⟨i + 1, by omega, by go_num, by rw [hZ1]; exact HK.out, HG3.out⟩, by simp only [intOf]; omega⟩
    · obtain rfl : i = 32 := by omega
      have hzb := blk_grown HZ2.out hgr hnz
      have hB4 := below_grownBy HB2.out hgr (Nat.le_refl _) hle7
      have HK := Lib.hid hblk
      have HZ3 := Lib.hid hzb
      have HB4 := Lib.hid hB4
      clear hblk hzb hB4 hgr
      go_wp2_with (first
        | (refine wpList_load_row rfl 106 (.tmp 7) (by with_reducible rfl) _ rfl _ _ (0, 0) _ HK.out HU3.out rfl HI3.out ?_))
      refine (HF.out _).mono ?_
      rintro e w2 ⟨rfl, hb2⟩
      have hq2 := HZ3.out.grow hb2
      have hlq := hq2.lt
      have hf0 := hq2.free 0
      have hf1 := hq2.free 1
      have hf2 := hq2.free 2
      have hf3 := hq2.free 3
      have e0 := hq2.cell 0
      have e1 := hq2.cell 1
      have e2 := hq2.cell 2
      have e3 := hq2.cell 3
      have HBW := Lib.hid (HB4.out.trans (hb2.mono HB4.out.size))
      clear hb2 hq2
      go_wp2_with fail
      refine bodyPost_ret (v := W (x * y)) (by simp [results, Try.results59, go_sem, *]) rfl ?_
      refine ⟨rfl, ?_⟩
      have := HBW.out
      go_grown
end Go.Proofs.Ytjlijocnmicdpaa
