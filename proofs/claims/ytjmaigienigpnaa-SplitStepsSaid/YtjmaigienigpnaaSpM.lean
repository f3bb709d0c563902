/- A pair's product as a wide number. No condition. -/
import Derived.Test.YtjmaigienigpnaaSpC2
import Derived.Test.YtjmaigienigpnaaM8
import Derived.Test.YtjmaigienigpnaaM64
set_option linter.unusedVariables false
set_option linter.unusedSimpArgs false
namespace Go.Proofs.Ytjmaigienigpnaa
open Go.RowKit

abbrev arr8 (f : Nat → Nat) : Array Value := #[.int .u64 ((f 0 : Nat) : Int), .int .u64 ((f 1 : Nat) : Int), .int .u64 ((f 2 : Nat) : Int), .int .u64 ((f 3 : Nat) : Int), .int .u64 ((f 4 : Nat) : Int), .int .u64 ((f 5 : Nat) : Int), .int .u64 ((f 6 : Nat) : Int), .int .u64 ((f 7 : Nat) : Int)]
theorem arr8_list (f : Nat → Nat) : arr8 f = ((List.range 8).map fun q => Value.int .u64 ((f q : Nat) : Int)).toArray := rfl
theorem arr8_at (f : Nat → Nat) {q : Nat} (h : q < 8) : (arr8 f)[q]? = some (.int .u64 ((f q : Nat) : Int)) := by rw [arr8_list]; simp [h]
theorem arr8_congr {f g : Nat → Nat} (h : ∀ q, q < 8 → f q = g q) : arr8 f = arr8 g := by
  rw [arr8_list, arr8_list]
  congr 1
  exact List.map_congr_left fun q hq => by rw [h q (by simpa using hq)]
theorem arr8_set (f : Nat → Nat) (q v : Nat) : (arr8 f).setIfInBounds q (.int .u64 ((v : Nat) : Int)) = arr8 fun j => if j = q then v else f j := by
  rw [arr8_list, arr8_list, List.setIfInBounds_toArray]
  congr 1
  apply List.ext_getElem?
  intro j
  rw [List.getElem?_set]
  by_cases hj : j < 8
  · by_cases hq : q = j
    · subst hq; simp [hj]
    · rw [if_neg hq]; simp [hj, show ¬ j = q from fun e => hq e.symm]
  · by_cases hq : q = j
    · subst hq; simp [hj]
    · rw [if_neg hq]; simp [hj]
theorem wd8_arr (n : Nat) : wd8 n = arr8 (dg n) := by
  unfold wd8 arr8 dg
  simp only [L8_eq, pow_b64]
def rowF (Z Z' n : Nat) : Nat → Nat := fun q => if q < n then dg Z' q else dg Z q
theorem rowF_zero (Z t i : Nat) : arr8 (rowF Z (Z + t * B64 ^ i) (i + 0)) = arr8 (dg Z) := arr8_congr fun q hq => by
  unfold rowF
  split
  · exact dg_low Z t i q (by omega)
  · rfl
theorem rowF_at {Z Z' n : Nat} : rowF Z Z' n n = dg Z n := by unfold rowF; rw [if_neg (by omega)]
theorem rowF_step (Z Z' n : Nat) : (arr8 (rowF Z Z' n)).setIfInBounds n (.int .u64 ((dg Z' n : Nat) : Int)) = arr8 (rowF Z Z' (n + 1)) := by
  rw [arr8_set]
  refine arr8_congr fun q hq => ?_
  unfold rowF
  by_cases h : q = n
  · subst h; rw [if_pos rfl, if_pos (by omega)]
  · rw [if_neg h]
    by_cases h2 : q < n
    · rw [if_pos h2, if_pos (by omega)]
    · rw [if_neg h2, if_neg (by omega)]
theorem rowF_end {Z Z' i : Nat} (hZ : Z < B64 ^ (i + 4)) (hZ' : Z' < B64 ^ (i + 5)) : arr8 (rowF Z Z' (i + 4 + 1)) = arr8 (dg Z') := arr8_congr fun q hq => by
  unfold rowF
  split
  · rfl
  · rw [dg_big hZ (by omega), dg_big hZ' (by omega)]
theorem carryG {B Z x Y i : Nat} (hB : 0 < B) (hx : x < B) (hY : Y < B ^ 4) (hZ : Z < B ^ (i + 4)) : cMul B Z x Y i 4 = (Z + x * Y * B ^ i) / B ^ (i + 4) % B := by
  have h := cMul_dig B Z x Y i 4 hB
  rw [Nat.div_eq_of_lt hZ, Nat.div_eq_of_lt hY, Nat.zero_mod, Nat.mul_zero, Nat.add_zero, Nat.add_zero, Nat.mod_eq_of_lt (cMul_top B Z x Y i 4 hB hx)] at h
  exact h
theorem carry_end {Z x Y i : Nat} (hx : x < B64) (hY : Y < B64 ^ 4) (hZ : Z < B64 ^ (i + 4)) : cMul B64 Z x Y i 4 = dg (Z + x * Y * B64 ^ i) (i + 4) := by
  unfold dg
  exact carryG (by decide) hx hY hZ
def PrRel (X Y b : Nat) (V : World) (i : Value) (wr : World) : Prop :=
  ∃ k : Nat, k ≤ 4 ∧ i = .int .i64 (k : Int) ∧ Blk wr b (arr8 (dg (rows64 X Y k))) 56 ∧ V.grownBy wr (some b)
def PrIn (Z x Y i b : Nat) (V : World) (c kk : Value) (wr : World) : Prop :=
  ∃ k : Nat, k ≤ 4 ∧ kk = .int .i64 (k : Int) ∧ c = .int .u64 (cMul B64 Z x Y i k : Nat) ∧ Blk wr b (arr8 (rowF Z (Z + x * Y * B64 ^ i) (i + k))) 56 ∧ V.grownBy wr (some b)
set_option maxRecDepth 20000 in
set_option maxHeartbeats 8000000 in
theorem prodP_any (x y : BitVec 256) (w : World) : Calls Try.prog 33 #[.agg #[.int .u64 (L x 0), .int .u64 (L x 1), .int .u64 (L x 2), .int .u64 (L x 3), .int .u64 (L y 0), .int .u64 (L y 1), .int .u64 (L y 2), .int .u64 (L y 3)]] w fun e w' => e = .returned (.agg (wd8 (x.toNat * y.toNat))) ∧ Below w.heap.size w w' := by
  have hi8 : (Try.prog.info? 56).map (·.size) = some 8 := by kernel_rfl
  have hu8 : Try.prog.underlying 56 = some (.array 8 22) := by kernel_rfl
  have HI8 := Lib.hid hi8
  have HU8 := Lib.hid hu8
  have HXA := Lib.hid (fun i (h : i < 4) => show (#[.int .u64 (L x 0), .int .u64 (L x 1), .int .u64 (L x 2), .int .u64 (L x 3), .int .u64 (L y 0), .int .u64 (L y 1), .int .u64 (L y 2), .int .u64 (L y 3)] : Array Value)[i]? = some (.int .u64 ((dg x.toNat i : Nat) : Int)) by rw [← L_dg]; rcases (by omega : i = 0 ∨ i = 1 ∨ i = 2 ∨ i = 3) with rfl | rfl | rfl | rfl <;> rfl)
  have HYA := Lib.hid (fun i (h : i < 4) => show (#[.int .u64 (L x 0), .int .u64 (L x 1), .int .u64 (L x 2), .int .u64 (L x 3), .int .u64 (L y 0), .int .u64 (L y 1), .int .u64 (L y 2), .int .u64 (L y 3)] : Array Value)[4 + i]? = some (.int .u64 ((dg y.toNat i : Nat) : Int)) by rw [← L_dg]; rcases (by omega : i = 0 ∨ i = 1 ∨ i = 2 ∨ i = 3) with rfl | rfl | rfl | rfl <;> rfl)
  have HEND := Lib.hid (show arr8 (dg (rows64 x.toNat y.toNat 4)) = wd8 (x.toNat * y.toNat) by rw [rows64_end, wd8_arr])
  have HZR := Lib.hid (show (#[.int .u64 0, .int .u64 0, .int .u64 0, .int .u64 0, .int .u64 0, .int .u64 0, .int .u64 0, .int .u64 0] : Array Value) = arr8 (dg (rows64 x.toNat y.toNat 0)) by rw [rows64_zero]; simp [arr8, dg])
  have hYb : y.toNat < B64 ^ 4 := by rw [← pow_b64]; exact y.isLt
  clear hi8 hu8
  generalize wd8 (x.toNat * y.toNat) = WE at *
  generalize x.toNat = X at *
  generalize y.toNat = Y at *
  generalize (#[.int .u64 (L x 0), .int .u64 (L x 1), .int .u64 (L x 2), .int .u64 (L x 3), .int .u64 (L y 0), .int .u64 (L y 1), .int .u64 (L y 2), .int .u64 (L y 3)] : Array Value) = XY at *
  go_enter Try.func33, Try.ntmps33
  go_upto_region 1 with (fail)
  refine wp_name fun U hU => ?_
  have hx : Blk U w.heap.size XY 43 := by rw [hU]; exact (Own.get (Own.new (Own.new (Own.nil w) (w.heap.size) (by first | rfl | simp)) (w.heap.size + 1) (by simp)) 1 rfl)
  have hz : Blk U (w.heap.size + 1) (arr8 (dg (rows64 X Y 0))) 56 := by rw [hU, ← HZR.out]; exact (Own.get (Own.new (Own.new (Own.nil w) (w.heap.size) (by first | rfl | simp)) (w.heap.size + 1) (by simp)) 0 rfl)
  have hB : Below w.heap.size w U := by rw [hU]; go_grown
  have HX := Lib.hid hx
  have HZ := Lib.hid hz
  have HB := Lib.hid hB
  have hnx : w.heap.size ≠ w.heap.size + 1 := by omega
  clear hU hx hz hB HZR
  go_wp2_with fail
  go_loopw [9] (fun i wr => PrRel X Y (w.heap.size + 1) U i wr) (fun i _ => 4 - (intOf i).toNat)
  case atStart => exact ⟨0, Nat.zero_le _, rfl, HZ.out, grownBy_refl _ _⟩
  case round =>
    obtain ⟨i, hi, rfl, hblk, hgr⟩ := hrel
    by_cases hlt : i < 4
    · have hdx := dg_lt X i
      have hcx0 := HXA.out i hlt
      have HRS := Lib.hid (rows64_succ X Y i)
      have HRL := Lib.hid (rows64_lt (X := X) (Y := Y) (i := i) hYb)
      have HRL1 := Lib.hid (rows64_lt (X := X) (Y := Y) (i := i + 1) hYb)
      have HBK := Lib.hid hblk
      have HGR := Lib.hid hgr
      generalize hZ1 : rows64 X Y (i + 1) = Z1 at *
      generalize rows64 X Y i = Z at *
      generalize dg X i = dx at *
      clear hblk hgr
      go_wp2_with fail
      go_loopw [4, 12] (fun c kk wr' => PrIn Z dx Y i (w.heap.size + 1) wr c kk wr') (fun _ kk _ => 4 - (intOf kk).toNat)
      case atStart => exact ⟨0, by omega, rfl, by rw [cMul_zero _ _ _ _ _ (by decide)]; rfl, by rw [rowF_zero]; exact HBK.out, grownBy_refl _ _⟩
      case round =>
        obtain ⟨k, hk, rfl, rfl, hblk, hgr⟩ := hrel
        have hgg := grownBy_trans HGR.out hgr
        have hxb := blk_grown HX.out hgg hnx
        have hl7 := hblk.lt
        have hl5' := hxb.lt
        have HGI := Lib.hid hgr
        by_cases hlk : k < 4
        · have hstep := rowF_step Z (Z + dx * Y * B64 ^ i) (i + k)
          have hat : rowF Z (Z + dx * Y * B64 ^ i) (i + k) (i + k) = dg Z (i + k) := rowF_at
          have hct := cMul_top B64 Z dx Y i k (by decide) hdx
          have hsu := cMul_succ B64 Z dx Y i k (by decide)
          have hdg := cMul_dig B64 Z dx Y i k (by decide)
          rw [show Z / B64 ^ (i + k) % B64 = dg Z (i + k) from rfl, show Y / B64 ^ k % B64 = dg Y k from rfl] at hsu hdg
          rw [show (Z + dx * Y * B64 ^ i) / B64 ^ (i + k) % B64 = dg (Z + dx * Y * B64 ^ i) (i + k) from rfl] at hdg
          have hdz := dg_lt Z (i + k)
          have hdy := dg_lt Y k
          have hcy0 := HYA.out k hlk
          have hcz0 : (arr8 (rowF Z (Z + dx * Y * B64 ^ i) (i + k)))[i + k]? = some (.int .u64 ((dg Z (i + k) : Nat) : Int)) := by rw [arr8_at _ (by omega), hat]
          have HSP := Lib.hid (mstep (a := dx) (b := dg Y k) (z := dg Z (i + k)) (c := cMul B64 Z dx Y i k) hdx hdy hdz hct)
          have HMU := Lib.hid (fun V => mul64W dx (dg Y k) hdx hdy V)
          generalize hc1e : cMul B64 Z dx Y i (k + 1) = c1 at *
          generalize cMul B64 Z dx Y i k = c0 at *
          generalize dg Y k = dy at *
          generalize dg Z (i + k) = dz at *
          generalize dg (Z + dx * Y * B64 ^ i) (i + k) = dn at *
          rw [show i + k + 1 = i + (k + 1) by omega] at hstep
          generalize hAN : arr8 (rowF Z (Z + dx * Y * B64 ^ i) (i + (k + 1))) = AN at *
          generalize arr8 (rowF Z (Z + dx * Y * B64 ^ i) (i + k)) = AO at *
          have hs1 : dx * dy % 18446744073709551616 < 18446744073709551616 := Nat.mod_lt _ (by decide)
          have hM := HSP.out
          have e1 := hM.lo
          have e2 := hM.hi
          have e3 := hM.h1
          have e4 := hM.h2
          rw [show B64 = 18446744073709551616 from rfl] at hsu hdg
          rw [hdg] at e1
          rw [hsu] at e2 e4
          clear hM HSP hsu hdg hat hgr hgg
          generalize dx * dy / 18446744073709551616 = ph at *
          generalize dx * dy % 18446744073709551616 = pl at *
          have hs2 : (pl + dz) % 18446744073709551616 < 18446744073709551616 := Nat.mod_lt _ (by decide)
          have hA1 := fun V : World => run_add (pl : Int) (dz : Int) 0 (by omega) (by omega) (by omega) (by omega) V
          have hA2 := fun V : World => run_add (((pl + dz) % 18446744073709551616 : Nat) : Int) (c0 : Int) 0 (by omega) (by omega) (by omega) (by omega) V
          rw [show aLo (pl : Int) (dz : Int) 0 = (((pl + dz) % 18446744073709551616 : Nat) : Int) by rw [aLo_eq]; omega, show aHi (pl : Int) (dz : Int) 0 = (((pl + dz) / 18446744073709551616 : Nat) : Int) by rw [aHi_eq]; omega] at hA1
          rw [show aLo (((pl + dz) % 18446744073709551616 : Nat) : Int) (c0 : Int) 0 = (dn : Int) by rw [aLo_eq]; omega, show aHi (((pl + dz) % 18446744073709551616 : Nat) : Int) (c0 : Int) 0 = ((((pl + dz) % 18446744073709551616 + c0) / 18446744073709551616 : Nat) : Int) by rw [aHi_eq]; omega] at hA2
          generalize (pl + dz) % 18446744073709551616 = s1 at *
          generalize (pl + dz) / 18446744073709551616 = x1 at *
          generalize (s1 + c0) / 18446744073709551616 = x2 at *
          have hw1 : IntKind.u64.wrap ((ph : Int) + (x1 : Int)) = ((ph + x1 : Nat) : Int) := by rw [IntWalk.u64_in _ (by omega)]; omega
          have hw2 : IntKind.u64.wrap (((ph + x1 : Nat) : Int) + (x2 : Int)) = (c1 : Int) := by rw [IntWalk.u64_in _ (by omega)]; omega
          have hw3 : IntKind.u64.wrap ((ph : Int) + (x1 : Int) + (x2 : Int)) = (c1 : Int) := by rw [IntWalk.u64_in _ (by omega)]; omega
          have hi4 : decide ((i : Int) < 4) = true := by simp; omega
          go_wp2_with fail
          refine wp_region_grow wr.heap.size 14 0 0 [(0, 0, 65536, 8), (1, 0, 131072, 2), (2, 3, 262144, 196608), (3, 4, 524288, 262144), (4, 0, 1048576, 32), (5, 0, 2097152, 2), (6, 48, 4194304, 3145728), (7, 64, 8388608, 4194304), (8, 136, 16777216, 8912896), (9, 256, 32768, 16777216), (10, 512, 33554432, 32768), (11, 512, 67108864, 32768), (12, 2047, 64, 33554432), (13, 8191, 128, 67108864)] [(.p 0, 1), (.p 1, 3), (.p 2, 7), (.p 3, 15), (.p 4, 31), (.p 5, 63), (.p 6, 127), (.p 7, 255), (.p 8, 511), (.p 9, 1023), (.p 10, 2047), (.p 11, 4095), (.p 12, 8191), (.p 13, 16383)] [] _ (fun p hp => hp) (by first | omega | (simp; done) | (simp; omega)) (by kernel_rfl) (by kernel_rfl) (Own.cons hblk (own1 hxb)) ?_
          refine wpG_move (i := 0) rfl rfl rfl (by rfl) rfl ?_
          simp only [List.set_cons_zero, List.set_cons_succ]
          refine wpG_pure (i := 1) (v := ?v16x1) rfl rfl (by rfl) (fun w hB hG K hK => ?h16x1) ?_
          case h16x1 =>
            go_wp2_with fail
            exact hK _ (Below.refl _ _)
          simp only [List.set_cons_zero, List.set_cons_succ]
          refine wpG_pure (i := 2) (v := ?v16x2) rfl rfl (by rfl) (fun w hB hG K hK => ?h16x2) ?_
          case h16x2 =>
            go_wp2_with fail
            exact hK _ (Below.refl _ _)
          simp only [List.set_cons_zero, List.set_cons_succ]
          refine wpG_pure (i := 3) (v := ?v16x3) rfl rfl (by rfl) (fun w hB hG K hK => ?h16x3) ?_
          case h16x3 =>
            have hcx := (hG.cell 1 rfl i).trans hcx0
            have cx := Own.cell hG 1 rfl
            go_wp2_with fail
            exact hK _ (Below.refl _ _)
          simp only [List.set_cons_zero, List.set_cons_succ]
          refine wpG_move (i := 4) rfl rfl rfl (by rfl) rfl ?_
          simp only [List.set_cons_zero, List.set_cons_succ]
          refine wpG_pure (i := 5) (v := ?v16x5) rfl rfl (by rfl) (fun w hB hG K hK => ?h16x5) ?_
          case h16x5 =>
            go_wp2_with fail
            exact hK _ (Below.refl _ _)
          simp only [List.set_cons_zero, List.set_cons_succ]
          refine wpG_pure (i := 6) (v := ?v16x6) rfl rfl (by rfl) (fun w hB hG K hK => ?h16x6) ?_
          case h16x6 =>
            go_wp2_with fail
            exact hK _ (Below.refl _ _)
          simp only [List.set_cons_zero, List.set_cons_succ]
          refine wpG_pure (i := 7) (v := ?v16x7) rfl rfl (by rfl) (fun w hB hG K hK => ?h16x7) ?_
          case h16x7 =>
            have hcy := (hG.cell 1 rfl (4 + k)).trans hcy0
            have cx := Own.cell hG 1 rfl
            go_wp2_with fail
            exact hK _ (Below.refl _ _)
          simp only [List.set_cons_zero, List.set_cons_succ]
          refine wpG_pure (i := 8) (v := ?v16x8) rfl rfl (by rfl) (fun w hB hG K hK => ?h16x8) ?_
          case h16x8 =>
            go_wp2_with fail
            refine (HMU.out _).mono ?_
            rintro e wx ⟨rfl, rfl⟩
            exact hK _ (Below.refl _ _)
          simp only [List.set_cons_zero, List.set_cons_succ]
          refine wpG_move (i := 9) rfl rfl rfl (by rfl) rfl ?_
          simp only [List.set_cons_zero, List.set_cons_succ]
          refine wpG_pure (i := 10) (v := ?v16x10) rfl rfl (by rfl) (fun w hB hG K hK => ?h16x10) ?_
          case h16x10 =>
            go_wp2_with fail
            exact hK _ (Below.refl _ _)
          simp only [List.set_cons_zero, List.set_cons_succ]
          refine wpG_pure (i := 11) (v := ?v16x11) rfl rfl (by rfl) (fun w hB hG K hK => ?h16x11) ?_
          case h16x11 =>
            go_wp2_with fail
            exact hK _ (Below.refl _ _)
          simp only [List.set_cons_zero, List.set_cons_succ]
          refine wpG_assign (i := 12) rfl rfl rfl (by rfl) rfl ?_
          simp only [List.set_cons_zero, List.set_cons_succ]
          refine wpG_assign (i := 13) rfl rfl rfl (by rfl) rfl ?_
          simp only [List.set_cons_zero, List.set_cons_succ]
          refine wpG_nil (fun w16 hb16 hG16 => ?_)
          simp only [List.append_eq, List.cons_append, List.nil_append, List.drop_succ_cons, List.drop_zero, List.drop_nil]
          have O16 := Own.of hG16
          try simp only [List.setIfInBounds_toArray, List.set_cons_zero, List.set_cons_succ] at O16
          have bw16 : Below wr.heap.size wr w16 := Below.trans (by go_grown) (Below.mono hb16 (by first | omega | (simp; done) | (simp; omega)))
          have zw16 := Below.size hb16
          try simp only [World.size_alloc, World.size_drew, World.size_setCell] at zw16
          have c16x0 := Own.cell O16 0 rfl
          have f16x0 := Own.free O16 0 rfl
          have l16x0 := Own.lt O16 0 rfl
          have l16x0d0 := le_up 0 l16x0
          have l16x0d1 := le_up 1 l16x0
          simp only [upN] at l16x0d0 l16x0d1
          have c16x1 := Own.cell O16 1 rfl
          have f16x1 := Own.free O16 1 rfl
          have l16x1 := Own.lt O16 1 rfl
          have l16x1d0 := le_up 0 l16x1
          have l16x1d1 := le_up 1 l16x1
          simp only [upN] at l16x1d0 l16x1d1
          have HO16 := Lib.hid O16
          clear O16 hb16
          have hcs := (HO16.out.cell 0 rfl (i + k)).trans hcz0
          have hfs := HO16.out.free 0 rfl (i + k)
          have hbk := (HO16.out.get 0 rfl).set (i + k) (.int .u64 ((dn : Nat) : Int))
          rw [hstep] at hbk
          have HK := Lib.hid hbk
          have HG3 := Lib.hid (grownBy_setr (grownBy_trans HGI.out (grownBy_below bw16 (some (w.heap.size + 1)))) (w.heap.size + 1) (i + k) (.int .u64 ((dn : Nat) : Int)))
          
          clear hbk bw16 hcx0 hcy0 hstep c16x0 c16x1
          go_wp2_with fail
          refine ⟨⟨k + 1, by omega, by go_num, ?_, by rw [hAN]; exact HK.out, HG3.out⟩, by simp only [intOf]; omega⟩
          rw [hc1e]
        · obtain rfl : k = 4 := by omega
          have HCE := Lib.hid (carry_end (i := i) hdx hYb HRL.out)
          have HSE := Lib.hid (rowF_step Z (Z + dx * Y * B64 ^ i) (i + 4))
          have HRE := Lib.hid (rowF_end (Z' := Z + dx * Y * B64 ^ i) HRL.out (by rw [← HRS.out]; exact HRL1.out))
          rw [HCE.out]
          rw [← HRS.out] at HSE HRE hblk ⊢
          have hcl : (arr8 (rowF Z Z1 (i + 4)))[i + 4]? = some (.int .u64 ((rowF Z Z1 (i + 4) (i + 4) : Nat) : Int)) := arr8_at _ (by omega)
          generalize dg Z1 (i + 4) = dn at *
          have hcs := (hblk.cell (i + 4)).trans hcl
          have hfs := hblk.free (i + 4)
          have hbk := hblk.set (i + 4) (.int .u64 ((dn : Nat) : Int))
          rw [HSE.out, HRE.out] at hbk
          have HK := Lib.hid hbk
          have HG3 := Lib.hid (grownBy_setr (grownBy_trans HGR.out HGI.out) (w.heap.size + 1) (i + 4) (.int .u64 ((dn : Nat) : Int)))
          generalize rowF Z Z1 (i + 4) (i + 4) = oldv at *
          clear hgg hxb hblk hgr hbk HSE HRE HCE hcl
          go_wp2_with fail
          exact ⟨⟨i + 1, by omega, by go_num, by rw [hZ1]; exact HK.out, HG3.out⟩, by simp only [intOf]; omega⟩
    · obtain rfl : i = 4 := by omega
      rw [HEND.out] at hblk
      have hB4 := below_grownBy HB.out hgr (Nat.le_refl _) (by omega)
      have HK := Lib.hid hblk
      have HB4 := Lib.hid hB4
      have hws : WE.size = 8 := by rw [← HEND.out]; rfl
      have hwo : WE.all (·.oneCell') = true := by rw [← HEND.out]; simp [arr8, Value.oneCell']
      have HI8' := Lib.hid (HI8.out.trans (congrArg some hws.symm))
      clear hblk hB4 hgr
      go_wp2_with (first
        | (refine wpList_load_row rfl 56 (.tmp 2) (by with_reducible rfl) _ rfl _ _ (0, 0) _ HK.out HU8.out rfl HI8'.out ?_)
        | (refine wpList_store_row rfl 56 (.tmp 2) (.tmp 60) (by with_reducible rfl) _ _ rfl rfl _ _ HK.out HI8'.out rfl hwo ?_))
      refine bodyPost_ret (results_cell_row (p := 2) (ty := 56) rfl _ _ (w.heap.size + 1) _ _ (0, 0) _ rfl (setRow_heap _ _ _ _ _ _ HK.out) HU8.out rfl HI8'.out) rfl ?_
      exact ⟨rfl, below_setRow HB4.out (by omega) _⟩
end Go.Proofs.Ytjmaigienigpnaa
