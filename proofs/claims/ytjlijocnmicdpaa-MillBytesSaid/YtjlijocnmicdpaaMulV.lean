/- word.Mul. No condition. -/
import Derived.Test.YtjlijocnmicdpaaWordA
import Derived.Test.YtjlijocnmicdpaaRefM
import Derived.Test.YtjlijocnmicdpaaM64
import Derived.Test.YtjlijocnmicdpaaMulP
import Derived.Test.YtjlijocnmicdpaaGrw
set_option linter.unusedVariables false
set_option linter.unusedSimpArgs false
set_option maxRecDepth 100000
namespace Go.Proofs.Ytjlijocnmicdpaa
open Go.RowKit

abbrev arr4 (f : Nat → Nat) : Array Value := #[.int .u64 ((f 0 : Nat) : Int), .int .u64 ((f 1 : Nat) : Int), .int .u64 ((f 2 : Nat) : Int), .int .u64 ((f 3 : Nat) : Int)]
theorem arr4_list (f : Nat → Nat) : arr4 f = ((List.range 4).map fun q => Value.int .u64 ((f q : Nat) : Int)).toArray := rfl
theorem arr4_at (f : Nat → Nat) {q : Nat} (h : q < 4) : (arr4 f)[q]? = some (.int .u64 ((f q : Nat) : Int)) := by rw [arr4_list]; simp [h]
theorem arr4_set (f : Nat → Nat) (q v : Nat) : (arr4 f).setIfInBounds q (.int .u64 ((v : Nat) : Int)) = arr4 (up f q v) := by
  rw [arr4_list, arr4_list, List.setIfInBounds_toArray]
  congr 1
  apply List.ext_getElem?
  intro j
  rw [List.getElem?_set]
  unfold up
  by_cases hj : j < 4
  · by_cases hq : q = j
    · subst hq; simp [hj]
    · rw [if_neg hq]; simp [hj, show ¬ j = q from fun e => hq e.symm]
  · by_cases hq : q = j
    · subst hq; simp [hj]
    · rw [if_neg hq]; simp [hj]
theorem L_pt (x : BitVec 256) (q : Nat) : L x q = ((pt x.toNat q : Nat) : Int) := by
  rw [L_eq, show 2 ^ (64 * q) = G64 ^ q by rw [Nat.pow_mul]]; rfl
theorem V4_pt {o : Nat → Nat} (ho : ∀ q, o q < G64) {n : Nat} (h : V4 o % G64 ^ 4 = n % G64 ^ 4) {q : Nat} (hq : q < 4) : o q = pt (n % G64 ^ 4) q := by
  have h0 := ho 0; have h1 := ho 1; have h2 := ho 2; have h3 := ho 3
  rw [← h]
  unfold pt V4
  rcases (by omega : q = 0 ∨ q = 1 ∨ q = 2 ∨ q = 3) with rfl | rfl | rfl | rfl <;> simp [G64] at * <;> omega
theorem mul_done {x y : BitVec 256} {o : Nat → Nat} (ho : ∀ q, o q < G64) (h : V4 o % G64 ^ 4 = (x.toNat % G64 ^ 4) * y.toNat % G64 ^ 4) : arr4 o = #[.int .u64 (L (x * y) 0), .int .u64 (L (x * y) 1), .int .u64 (L (x * y) 2), .int .u64 (L (x * y) 3)] := by
  have hx : x.toNat % G64 ^ 4 = x.toNat := Nat.mod_eq_of_lt (by rw [M4_eq]; exact x.isLt)
  rw [hx] at h
  have e : (x * y).toNat = x.toNat * y.toNat % G64 ^ 4 := by rw [M4_eq]; exact BitVec.toNat_mul x y
  rw [L_pt, L_pt, L_pt, L_pt, e]
  show (#[_, _, _, _] : Array Value) = _
  rw [V4_pt ho h (q := 0) (by decide), V4_pt ho h (q := 1) (by decide), V4_pt ho h (q := 2) (by decide), V4_pt ho h (q := 3) (by decide)]
theorem up_lt {o : Nat → Nat} (ho : ∀ q, o q < G64) {j v : Nat} (hv : v < G64) : ∀ q, up o j v q < G64 := fun q => by unfold up; split; exact hv; exact ho q
theorem mul_step {p z c ph pl s1 x1 x2 dn : Nat} (h1 : p = pl + G64 * ph) (h2 : pl + z = s1 + G64 * x1) (h3 : s1 + c = dn + G64 * x2) : dn + G64 * (ph + x1 + x2) = p + z + c := by
  simp only [G64] at *
  omega
def MuRel (X Y b : Nat) (V : World) (i : Value) (wr : World) : Prop :=
  ∃ (k : Nat) (o : Nat → Nat), k ≤ 4 ∧ i = .int .i64 (k : Int) ∧ V4 o % G64 ^ 4 = (X % G64 ^ k) * Y % G64 ^ 4 ∧ (∀ q, o q < G64) ∧ Blk wr b (arr4 o) 80 ∧ V.grownBy wr (some b)
def MuIn (X Y i b : Nat) (V : World) (c kk : Value) (wr : World) : Prop :=
  ∃ (k : Nat) (o : Nat → Nat) (q : Nat), k ≤ 4 - i ∧ kk = .int .i64 (k : Int) ∧ c = .int .u64 ((q : Nat) : Int) ∧ q < G64 ∧ MInv X Y i k o q ∧ (∀ q, o q < G64) ∧ Blk wr b (arr4 o) 80 ∧ V.grownBy wr (some b)
set_option maxRecDepth 20000 in
set_option maxHeartbeats 8000000 in
theorem wordMul_any (x y : BitVec 256) (w : World) : Calls Try.prog 42 #[W x, W y] w fun e w' => e = .returned (W (x * y)) ∧ Below w.heap.size w w' := by
  have hi4 : (Try.prog.info? 80).map (·.size) = some 4 := by kernel_rfl
  have hu4 : Try.prog.underlying 80 = some (.array 4 23) := by kernel_rfl
  have HI4 := Lib.hid hi4
  have HU4 := Lib.hid hu4
  have HXA := Lib.hid (fun i (h : i < 4) => show (#[.int .u64 (L x 0), .int .u64 (L x 1), .int .u64 (L x 2), .int .u64 (L x 3)] : Array Value)[i]? = some (.int .u64 ((pt x.toNat i : Nat) : Int)) by rw [← L_pt]; rcases (by omega : i = 0 ∨ i = 1 ∨ i = 2 ∨ i = 3) with rfl | rfl | rfl | rfl <;> rfl)
  have HYA := Lib.hid (fun i (h : i < 4) => show (#[.int .u64 (L y 0), .int .u64 (L y 1), .int .u64 (L y 2), .int .u64 (L y 3)] : Array Value)[i]? = some (.int .u64 ((pt y.toNat i : Nat) : Int)) by rw [← L_pt]; rcases (by omega : i = 0 ∨ i = 1 ∨ i = 2 ∨ i = 3) with rfl | rfl | rfl | rfl <;> rfl)
  have HEND := Lib.hid (fun o (ho : ∀ q, o q < G64) (h : V4 o % G64 ^ 4 = (x.toNat % G64 ^ 4) * y.toNat % G64 ^ 4) => show arr4 o = #[.int .u64 (L (x * y) 0), .int .u64 (L (x * y) 1), .int .u64 (L (x * y) 2), .int .u64 (L (x * y) 3)] from mul_done ho h)
  have HZR : (#[.int .u64 0, .int .u64 0, .int .u64 0, .int .u64 0] : Array Value) = arr4 (fun _ => 0) := rfl
  clear hi4 hu4
  show Calls Try.prog 42 #[.agg #[.int .u64 (L x 0), .int .u64 (L x 1), .int .u64 (L x 2), .int .u64 (L x 3)], .agg #[.int .u64 (L y 0), .int .u64 (L y 1), .int .u64 (L y 2), .int .u64 (L y 3)]] w fun e w' => e = .returned (.agg #[.int .u64 (L (x * y) 0), .int .u64 (L (x * y) 1), .int .u64 (L (x * y) 2), .int .u64 (L (x * y) 3)]) ∧ Below w.heap.size w w'
  generalize x.toNat = X at *
  generalize y.toNat = Y at *
  have hYs : (#[.int .u64 (L y 0), .int .u64 (L y 1), .int .u64 (L y 2), .int .u64 (L y 3)] : Array Value).size = 4 := rfl
  have hXs : (#[.int .u64 (L x 0), .int .u64 (L x 1), .int .u64 (L x 2), .int .u64 (L x 3)] : Array Value).size = 4 := rfl
  have hWs : (#[.int .u64 (L (x * y) 0), .int .u64 (L (x * y) 1), .int .u64 (L (x * y) 2), .int .u64 (L (x * y) 3)] : Array Value).size = 4 := rfl
  have hWo : (#[.int .u64 (L (x * y) 0), .int .u64 (L (x * y) 1), .int .u64 (L (x * y) 2), .int .u64 (L (x * y) 3)] : Array Value).all (·.oneCell') = true := by simp [Value.oneCell']
  generalize (#[.int .u64 (L (x * y) 0), .int .u64 (L (x * y) 1), .int .u64 (L (x * y) 2), .int .u64 (L (x * y) 3)] : Array Value) = WE at *
  generalize (#[.int .u64 (L x 0), .int .u64 (L x 1), .int .u64 (L x 2), .int .u64 (L x 3)] : Array Value) = XA at *
  generalize (#[.int .u64 (L y 0), .int .u64 (L y 1), .int .u64 (L y 2), .int .u64 (L y 3)] : Array Value) = YA at *
  go_enter Try.func42, Try.ntmps42
  go_upto_region 1 with (fail)
  refine wp_name fun U hU => ?_
  have hx : Blk U w.heap.size XA 80 := by rw [hU]; exact (Own.get (Own.new (Own.new (Own.new (Own.nil w) (w.heap.size) (by first | rfl | simp)) (w.heap.size + 1) (by simp)) (w.heap.size + 1 + 1) (by simp)) 2 rfl)
  have hy : Blk U (w.heap.size + 1) YA 80 := by rw [hU]; exact (Own.get (Own.new (Own.new (Own.new (Own.nil w) (w.heap.size) (by first | rfl | simp)) (w.heap.size + 1) (by simp)) (w.heap.size + 1 + 1) (by simp)) 1 rfl)
  have hz : Blk U (w.heap.size + 1 + 1) (arr4 (fun _ => 0)) 80 := by rw [hU, ← HZR]; exact (Own.get (Own.new (Own.new (Own.new (Own.nil w) (w.heap.size) (by first | rfl | simp)) (w.heap.size + 1) (by simp)) (w.heap.size + 1 + 1) (by simp)) 0 rfl)
  have hB : Below w.heap.size w U := by rw [hU]; go_grown
  have HX := Lib.hid hx
  have HY := Lib.hid hy
  have HZ := Lib.hid hz
  have HB := Lib.hid hB
  have hnx : w.heap.size ≠ w.heap.size + 1 + 1 := by omega
  have hny : w.heap.size + 1 ≠ w.heap.size + 1 + 1 := by omega
  clear hU hx hy hz hB HZR
  go_wp2_with fail
  go_loopw [11] (fun i wr => MuRel X Y (w.heap.size + 1 + 1) U i wr) (fun i _ => 4 - (intOf i).toNat)
  case atStart => exact ⟨0, fun _ => 0, Nat.zero_le _, rfl, by simp [V4, Nat.mod_one], fun _ => by simp [G64], HZ.out, grownBy_refl _ _⟩
  case round =>
    obtain ⟨i, o, hi, rfl, hinv, ho, hblk, hgr⟩ := hrel
    by_cases hlt : i < 4
    · have hcx0 := HXA.out i hlt
      have hdx := pt_lt X i
      have HDX := Lib.hid (rfl : pt X i = pt X i)
      have HBK := Lib.hid hblk
      have HGR := Lib.hid hgr
      have HIN := Lib.hid hinv
      have HO := Lib.hid ho
      clear hblk hgr hinv ho
      have hw4 : IntKind.i64.wrap (4 - (i : Int)) = ((4 - i : Nat) : Int) := by rw [IntWalk.i64_in _ (by omega)]; omega
      go_wp2_with fail
      go_loopw [6, 16] (fun c kk wr' => MuIn X Y i (w.heap.size + 1 + 1) wr c kk wr') (fun _ kk _ => 4 - (intOf kk).toNat)
      case atStart => exact ⟨0, o, 0, by omega, rfl, rfl, by simp [G64], MInv.start HIN.out, HO.out, HBK.out, grownBy_refl _ _⟩
      case round =>
        obtain ⟨k, o', q, hk, rfl, rfl, hq, hinv, ho, hblk, hgr⟩ := hrel
        have hgg := grownBy_trans HGR.out hgr
        have hxb := blk_grown HX.out hgg hnx
        have hyb := blk_grown HY.out hgg hny
        have hl7 := hblk.lt
        have hl5' := hxb.lt
        have hl6' := hyb.lt
        have HGI := Lib.hid hgr
        by_cases hlk : k < 4 - i
        · have hdy := pt_lt Y k
          have hcy0 := HYA.out k (by omega)
          have hcz0 : (arr4 o')[i + k]? = some (.int .u64 ((o' (i + k) : Nat) : Int)) := arr4_at _ (by omega)
          have hdz := ho (i + k)
          have HMU := Lib.hid (fun V => mul64W (pt X i) (pt Y k) hdx hdy V)
          have HINV := Lib.hid hinv
          have HO' := Lib.hid ho
          have HSET := Lib.hid (fun v => arr4_set o' (i + k) v)
          have hpp : pt X i * pt Y k = pt X i * pt Y k % 18446744073709551616 + G64 * (pt X i * pt Y k / 18446744073709551616) := (Nat.mod_add_div _ _).symm
          have hs1 : pt X i * pt Y k % 18446744073709551616 < 18446744073709551616 := Nat.mod_lt _ (by decide)
          have hple : pt X i * pt Y k ≤ 18446744073709551615 * 18446744073709551615 := Nat.mul_le_mul (by have := hdx; simp only [G64] at this; omega) (by have := hdy; simp only [G64] at this; omega)
          have hph : pt X i * pt Y k / 18446744073709551616 ≤ 18446744073709551614 := by omega
          have HSTEP := Lib.hid (fun lo c' (h : lo + G64 * c' = pt X i * pt Y k + o' (i + k) + q) => MInv.step hinv (by omega) h)
          clear hinv ho hple
          generalize hpe : pt X i * pt Y k = pp at *
          generalize hdxe : pt X i = dx at *
          generalize hdye : pt Y k = dy at *
          generalize hdze : o' (i + k) = dz at *
          generalize pp / 18446744073709551616 = ph at *
          generalize pp % 18446744073709551616 = pl at *
          have hs2 : (pl + dz) % 18446744073709551616 < 18446744073709551616 := Nat.mod_lt _ (by decide)
          have hdz' : dz < 18446744073709551616 := hdz
          have hq' : q < 18446744073709551616 := hq
          have hm1 : pl + dz = (pl + dz) % 18446744073709551616 + G64 * ((pl + dz) / 18446744073709551616) := (Nat.mod_add_div _ _).symm
          have hA1 := fun V : World => run_add (pl : Int) (dz : Int) 0 (by omega) (by omega) (by omega) (by omega) V
          have hA2 := fun V : World => run_add (((pl + dz) % 18446744073709551616 : Nat) : Int) (q : Int) 0 (by omega) (by omega) (by omega) (by omega) V
          rw [show aLo (pl : Int) (dz : Int) 0 = (((pl + dz) % 18446744073709551616 : Nat) : Int) by rw [aLo_eq]; omega, show aHi (pl : Int) (dz : Int) 0 = (((pl + dz) / 18446744073709551616 : Nat) : Int) by rw [aHi_eq]; omega] at hA1
          rw [show aLo (((pl + dz) % 18446744073709551616 : Nat) : Int) (q : Int) 0 = ((((pl + dz) % 18446744073709551616 + q) % 18446744073709551616 : Nat) : Int) by rw [aLo_eq]; omega, show aHi (((pl + dz) % 18446744073709551616 : Nat) : Int) (q : Int) 0 = ((((pl + dz) % 18446744073709551616 + q) / 18446744073709551616 : Nat) : Int) by rw [aHi_eq]; omega] at hA2
          generalize (pl + dz) % 18446744073709551616 = s1 at *
          have hx1b : (pl + dz) / 18446744073709551616 ≤ 1 := by omega
          generalize (pl + dz) / 18446744073709551616 = x1 at *
          have hm2 : s1 + q = (s1 + q) % 18446744073709551616 + G64 * ((s1 + q) / 18446744073709551616) := (Nat.mod_add_div _ _).symm
          have hdnb : (s1 + q) % 18446744073709551616 < G64 := Nat.mod_lt _ (by decide)
          have hx2b : (s1 + q) / 18446744073709551616 ≤ 1 := by omega
          generalize (s1 + q) % 18446744073709551616 = dn at *
          generalize (s1 + q) / 18446744073709551616 = x2 at *
          have hst := mul_step hpp hm1 hm2
          have hcb : ph + x1 + x2 < G64 := by
            have h1 : pp ≤ 18446744073709551615 * 18446744073709551615 := by rw [← hpe]; exact Nat.mul_le_mul (by have := hdx; simp only [G64] at this; omega) (by have := hdy; simp only [G64] at this; omega)
            simp only [G64] at *
            omega
          have HNEW := Lib.hid (HSTEP.out dn (ph + x1 + x2) hst)
          have HCB := Lib.hid hcb
          have HDN := Lib.hid hdnb
          have hw1 : IntKind.u64.wrap ((ph : Int) + (x1 : Int)) = ((ph + x1 : Nat) : Int) := by rw [IntWalk.u64_in _ (by simp only [G64] at hcb; omega)]; omega
          have hw2 : IntKind.u64.wrap (((ph + x1 : Nat) : Int) + (x2 : Int)) = ((ph + x1 + x2 : Nat) : Int) := by rw [IntWalk.u64_in _ (by simp only [G64] at hcb; omega)]; omega
          have hw3 : IntKind.u64.wrap ((ph : Int) + (x1 : Int) + (x2 : Int)) = ((ph + x1 + x2 : Nat) : Int) := by rw [IntWalk.u64_in _ (by simp only [G64] at hcb; omega)]; omega
          have hi4 : decide ((i : Int) < 4) = true := by simp; omega
          clear hpp hm1 hm2 hst hcb hdnb hpe HSTEP hgr hgg hs1 hs2 hdze hdxe hdye
          go_wp2_with fail
          refine wp_region_grow wr.heap.size 12 0 0 [(0, 0, 1048576, 32), (1, 1, 2097152, 1048580), (2, 2, 4194304, 2097152), (3, 0, 8388608, 128), (4, 8, 16777216, 8388616), (5, 16, 33554432, 16777216), (6, 36, 67108864, 37748736), (7, 64, 524288, 67108864), (8, 128, 134217728, 524288), (9, 128, 268435456, 524288), (10, 511, 256, 134217728), (11, 2047, 512, 268435456)] [(.p 0, 1), (.p 1, 3), (.p 2, 7), (.p 3, 15), (.p 4, 31), (.p 5, 63), (.p 6, 127), (.p 7, 255), (.p 8, 511), (.p 9, 1023), (.p 10, 2047), (.p 11, 4095)] [] _ (fun p hp => hp) (by first | omega | (simp; done) | (simp; omega)) (by kernel_rfl) (by kernel_rfl) (Own.cons hblk (Own.cons hyb (own1 hxb))) ?_
          refine wpG_move (i := 0) rfl rfl rfl (by rfl) rfl ?_
          simp only [List.set_cons_zero, List.set_cons_succ]
          refine wpG_pure (i := 1) (v := ?v17x1) rfl rfl (by rfl) (fun w hB hG K hK => ?h17x1) ?_
          case h17x1 =>
            go_wp2_with fail
            exact hK _ (Below.refl _ _)
          simp only [List.set_cons_zero, List.set_cons_succ]
          refine wpG_pure (i := 2) (v := ?v17x2) rfl rfl (by rfl) (fun w hB hG K hK => ?h17x2) ?_
          case h17x2 =>
            have hcx := (hG.cell 2 rfl i).trans hcx0
            have cx := Own.cell hG 2 rfl
            go_wp2_with fail
            exact hK _ (Below.refl _ _)
          simp only [List.set_cons_zero, List.set_cons_succ]
          refine wpG_move (i := 3) rfl rfl rfl (by rfl) rfl ?_
          simp only [List.set_cons_zero, List.set_cons_succ]
          refine wpG_pure (i := 4) (v := ?v17x4) rfl rfl (by rfl) (fun w hB hG K hK => ?h17x4) ?_
          case h17x4 =>
            go_wp2_with fail
            exact hK _ (Below.refl _ _)
          simp only [List.set_cons_zero, List.set_cons_succ]
          refine wpG_pure (i := 5) (v := ?v17x5) rfl rfl (by rfl) (fun w hB hG K hK => ?h17x5) ?_
          case h17x5 =>
            have hcy := (hG.cell 1 rfl k).trans hcy0
            have cx := Own.cell hG 1 rfl
            go_wp2_with fail
            exact hK _ (Below.refl _ _)
          simp only [List.set_cons_zero, List.set_cons_succ]
          refine wpG_pure (i := 6) (v := ?v17x6) rfl rfl (by rfl) (fun w hB hG K hK => ?h17x6) ?_
          case h17x6 =>
            go_wp2_with fail
            refine (HMU.out _).mono ?_
            rintro e wx ⟨rfl, rfl⟩
            exact hK _ (Below.refl _ _)
          simp only [List.set_cons_zero, List.set_cons_succ]
          refine wpG_move (i := 7) rfl rfl rfl (by rfl) rfl ?_
          simp only [List.set_cons_zero, List.set_cons_succ]
          refine wpG_pure (i := 8) (v := ?v17x8) rfl rfl (by rfl) (fun w hB hG K hK => ?h17x8) ?_
          case h17x8 =>
            go_wp2_with fail
            exact hK _ (Below.refl _ _)
          simp only [List.set_cons_zero, List.set_cons_succ]
          refine wpG_pure (i := 9) (v := ?v17x9) rfl rfl (by rfl) (fun w hB hG K hK => ?h17x9) ?_
          case h17x9 =>
            go_wp2_with fail
            exact hK _ (Below.refl _ _)
          simp only [List.set_cons_zero, List.set_cons_succ]
          refine wpG_assign (i := 10) rfl rfl rfl (by rfl) rfl ?_
          simp only [List.set_cons_zero, List.set_cons_succ]
          refine wpG_assign (i := 11) rfl rfl rfl (by rfl) rfl ?_
          simp only [List.set_cons_zero, List.set_cons_succ]
          refine wpG_nil (fun w17 hb17 hG17 => ?_)
          simp only [List.append_eq, List.cons_append, List.nil_append, List.drop_succ_cons, List.drop_zero, List.drop_nil]
          have O17 := Own.of hG17
          try simp only [List.setIfInBounds_toArray, List.set_cons_zero, List.set_cons_succ] at O17
          have bw17 : Below wr.heap.size wr w17 := Below.trans (by go_grown) (Below.mono hb17 (by first | omega | (simp; done) | (simp; omega)))
          have zw17 := Below.size hb17
          try simp only [World.size_alloc, World.size_drew, World.size_setCell] at zw17
          have c17x0 := Own.cell O17 0 rfl
          have f17x0 := Own.free O17 0 rfl
          have l17x0 := Own.lt O17 0 rfl
          have l17x0d0 := le_up 0 l17x0
          have l17x0d1 := le_up 1 l17x0
          simp only [upN] at l17x0d0 l17x0d1
          have c17x1 := Own.cell O17 1 rfl
          have f17x1 := Own.free O17 1 rfl
          have l17x1 := Own.lt O17 1 rfl
          have l17x1d0 := le_up 0 l17x1
          have l17x1d1 := le_up 1 l17x1
          simp only [upN] at l17x1d0 l17x1d1
          have c17x2 := Own.cell O17 2 rfl
          have f17x2 := Own.free O17 2 rfl
          have l17x2 := Own.lt O17 2 rfl
          have l17x2d0 := le_up 0 l17x2
          have l17x2d1 := le_up 1 l17x2
          simp only [upN] at l17x2d0 l17x2d1
          have HO17 := Lib.hid O17
          clear O17 hb17
          have hcs := (HO17.out.cell 0 rfl (i + k)).trans hcz0
          have hfs := HO17.out.free 0 rfl (i + k)
          have hbk := (HO17.out.get 0 rfl).set (i + k) (.int .u64 ((dn : Nat) : Int))
          rw [HSET.out] at hbk
          have HK := Lib.hid hbk
          have HG3 := Lib.hid (grownBy_setr (grownBy_trans HGI.out (grownBy_below bw17 (some (w.heap.size + 1 + 1)))) (w.heap.size + 1 + 1) (i + k) (.int .u64 ((dn : Nat) : Int)))
          clear hbk bw17 hcx0 hcy0
          go_wp2_with fail
          refine ⟨⟨k + 1, up o' (i + k) dn, ph + x1 + x2, by omega, by go_num, ?_, HCB.out, HNEW.out, up_lt HO'.out HDN.out, HK.out, HG3.out⟩, by simp only [intOf]; omega⟩
          first | rfl | (congr 1; omega)
        · obtain rfl : k = 4 - i := by omega
          have HE := Lib.hid (MInv.stop (by omega) hinv)
          have HO' := Lib.hid ho
          have HK := Lib.hid hblk
          have HG3 := Lib.hid (grownBy_trans HGR.out HGI.out)
          clear hgg hxb hyb hblk hgr hinv ho
          go_wp2_with fail
          exact ⟨⟨i + 1, o', by omega, by go_num, HE.out, HO'.out, HK.out, HG3.out⟩, by simp only [intOf]; omega⟩
    · obtain rfl : i = 4 := by omega
      have hE := HEND.out o ho hinv
      rw [hE] at hblk
      have hB4 := below_grownBy HB.out hgr (Nat.le_refl _) (by omega)
      have HK := Lib.hid hblk
      have HB4 := Lib.hid hB4
      have HI4' := Lib.hid (HI4.out.trans (congrArg some hWs.symm))
      clear hblk hB4 hgr hE hinv ho
      go_wp2_with (first
        | (refine wpList_load_row rfl 80 (.tmp 4) (by with_reducible rfl) _ rfl _ _ (0, 0) _ HK.out HU4.out rfl HI4'.out ?_)
        | (refine wpList_store_row rfl 80 (.tmp 4) (.tmp 58) (by with_reducible rfl) _ _ rfl rfl _ _ HK.out HI4'.out rfl hWo ?_))
      refine bodyPost_ret (results_cell_row (p := 4) (ty := 80) rfl _ _ (w.heap.size + 1 + 1) _ _ (0, 0) _ rfl (setRow_heap _ _ _ _ _ _ HK.out) HU4.out rfl HI4'.out) rfl ?_
      exact ⟨rfl, below_setRow HB4.out (by omega) _⟩
end Go.Proofs.Ytjlijocnmicdpaa
