/- The rows of the chapter: works. -/
import Derived.Test.YtknkepokkenokaaTagN
set_option linter.unusedVariables false
set_option linter.unusedSimpArgs false
namespace Go.Proofs.Ytknkepokkenokaa
open Go.RowKit

def two : List (Int × Int) := [(1, 1), (2, 4)]
theorem wpart (b : Nat) (w : World) (hs : SlAt w (some ⟨b, 0, none⟩) (cellsC two)) : Calls Try.prog 8 #[.slice (some ⟨b, 0, none⟩) 2 2, .int .i64 1, .int .i64 3] w
    fun e w' => ∃ A' c, e = .returned (.tuple #[.slice A' 3 c, .int .i64 0]) ∧ SlAt w' A' (cellsC [(2, 4), (0, 0), (0, 0)]) ∧ 3 ≤ c ∧ Below w.heap.size w w' :=
  part_any (some ⟨b, 0, none⟩) two 2 1 3 w hs (by decide) (by decide) (by decide)
theorem wlabel (b : Nat) (w : World) (hs : SlAt w (some ⟨b, 0, none⟩) (cellsC two)) : Calls Try.prog 16 #[.slice (some ⟨b, 0, none⟩) 2 2] w
    fun e w' => e = .returned (.int .u64 5) ∧ Below w.heap.size w w' :=
  (label_any (some ⟨b, 0, none⟩) two 2 w hs (by decide) (by decide)).mono fun e w' ⟨he, hb⟩ => ⟨he.trans (congrArg Ending.returned (by kernel_rfl)), hb⟩
def five : Nat → Nat := fun q => if q = 0 then 5 else 0
theorem five_lt (q : Nat) : five q < 2 ^ 64 := by unfold five; split <;> decide
theorem wcell (w : World) : Calls Try.prog 20 #[.agg #[.int .u64 5, .int .u64 0, .int .u64 0, .int .u64 0, .int .u64 1]] w (Gives w (cellsC (wcells five 1)) 32) :=
  cells_any five 1 w five_lt
theorem wword (A : Option Addr) (c : Nat) (w : World) (hs : SlAt w A (cellsC (wcells five 1))) (hc : 32 ≤ c) : Calls Try.prog 22 #[.slice A 32 c] w
    fun e w' => e = .returned (.agg #[.int .u64 5, .int .u64 0, .int .u64 0, .int .u64 0, .int .u64 1]) ∧ Below w.heap.size w w' := by
  have h := word_any A (wcells five 1) c w hs (by rw [wcells_len]; exact hc) (by rw [wcells_len]; omega) (fun q hq => by
    obtain ⟨b, hb, rfl⟩ := List.mem_map.1 hq
    obtain ⟨k, _, rfl⟩ := List.mem_map.1 hb
    have : byteAt five (31 - k) < 256 := Nat.mod_lt _ (by decide)
    exact ⟨by simp, by simp; omega⟩)
  rw [wcells_len] at h
  have e := fun q hq => word_cells (x := five) (l := 1) five_lt ⟨by omega, by omega⟩ q hq
  refine h.mono fun e' w' ⟨he, hb⟩ => ⟨he.trans ?_, hb⟩
  unfold valV
  rw [(e 0 (by omega)).1, (e 1 (by omega)).1, (e 2 (by omega)).1, (e 3 (by omega)).1, (e 0 (by omega)).2]
  rfl
theorem wsame30 (w : World) : Calls Try.prog 25 #[(Vl.v ⟨5, 0, 0, 0, 2⟩), (Vl.v ⟨6, 0, 0, 0, 2⟩), .int .u64 1] w fun e w' => e = .returned (.bool true) ∧ Below w.heap.size w w' :=
  (same_any ⟨5, 0, 0, 0, 2⟩ ⟨6, 0, 0, 0, 2⟩ 1 w).mono fun e w' ⟨he, hb⟩ => ⟨he.trans (congrArg (fun b => Ending.returned (.bool b)) (by kernel_rfl)), hb⟩
theorem wsame37 (w : World) : Calls Try.prog 25 #[(Vl.v ⟨5, 0, 0, 0, 1⟩), (Vl.v ⟨6, 0, 0, 0, 1⟩), .int .u64 1] w fun e w' => e = .returned (.bool false) ∧ Below w.heap.size w w' :=
  (same_any ⟨5, 0, 0, 0, 1⟩ ⟨6, 0, 0, 0, 1⟩ 1 w).mono fun e w' ⟨he, hb⟩ => ⟨he.trans (congrArg (fun b => Ending.returned (.bool b)) (by kernel_rfl)), hb⟩
theorem wsame45 (w : World) : Calls Try.prog 25 #[(Vl.v ⟨5, 0, 0, 0, 1⟩), (Vl.v ⟨5, 0, 0, 0, 2⟩), .int .u64 3] w fun e w' => e = .returned (.bool false) ∧ Below w.heap.size w w' :=
  (same_any ⟨5, 0, 0, 0, 1⟩ ⟨5, 0, 0, 0, 2⟩ 3 w).mono fun e w' ⟨he, hb⟩ => ⟨he.trans (congrArg (fun b => Ending.returned (.bool b)) (by kernel_rfl)), hb⟩
theorem wequal (A : Option Addr) (c b : Nat) (w : World) (hs : SlAt w A (cellsC [(2, 4), (0, 0), (0, 0)])) (hs' : SlAt w (some ⟨b, 0, none⟩) (cellsC [(2, 4), (0, 0), (0, 0)])) (hc : 3 ≤ c) :
    Calls Try.prog 10 #[.slice A 3 c, .slice (some ⟨b, 0, none⟩) 3 3] w fun e w' => e = .returned (.bool true) ∧ Below w.heap.size w w' :=
  (refEqual_any A (some ⟨b, 0, none⟩) [(2, 4), (0, 0), (0, 0)] [(2, 4), (0, 0), (0, 0)] c 3 w hs hs' hc (by decide) (by decide) (by decide) (by decide)).mono fun e w' ⟨he, hb⟩ => ⟨he.trans (congrArg (fun b => Ending.returned (.bool b)) (by kernel_rfl)), hb⟩
set_option maxHeartbeats 16000000 in
set_option maxRecDepth 100000 in
theorem works_any (w : World) : Calls Try.prog 7 #[] w fun e w' => e = .returned (.bool true) ∧ Below w.heap.size w w' := by
  go_enter Try.func7, Try.ntmps7
  go_wp2_with fail
  have hbl : Blk (w.alloc (.cells #[.int .u8 1, .int .u64 1, .int .u8 2, .int .u64 4] 55)) w.heap.size #[.int .u8 1, .int .u64 1, .int .u8 2, .int .u64 4] 55 := heap_alloc_new _ _
  have hsl := SlAt.of_blk hbl
  refine (wpart _ _ hsl).mono ?_
  rintro e w1 ⟨A1, c1, rfl, s1, m1, hb1⟩
  have O1 := Own.grow' hb1 (Own.new (Own.nil w) (w.heap.size) rfl)
  try simp only [List.setIfInBounds_toArray, List.set_cons_zero, List.set_cons_succ] at O1
  have bw1 : Below w.heap.size w w1 := Below.trans (by go_grown) (Below.mono hb1 (by first | omega | (simp; done) | (simp; omega)))
  have zw1 := Below.size hb1
  try simp only [World.size_alloc, World.size_drew, World.size_setCell] at zw1
  have c1x0 := Own.cell O1 0 rfl
  have f1x0 := Own.free O1 0 rfl
  have l1x0 := Own.lt O1 0 rfl
  have l1x0d0 := le_up 0 l1x0
  have l1x0d1 := le_up 1 l1x0
  simp only [upN] at l1x0d0 l1x0d1
  have HO1 := Lib.hid O1
  clear O1 hb1
  go_wp2_with fail
  refine (refWOf_any _ _).mono ?_
  rintro e w2 ⟨rfl, hb2⟩
  have O2 := Own.grow' hb2 HO1.out
  try simp only [List.setIfInBounds_toArray, List.set_cons_zero, List.set_cons_succ] at O2
  have bw2 : Below w.heap.size w w2 := Below.trans (by go_grown) (Below.mono hb2 (by first | omega | (simp; done) | (simp; omega)))
  have zw2 := Below.size hb2
  try simp only [World.size_alloc, World.size_drew, World.size_setCell] at zw2
  have pw2 : Below w1.heap.size w1 w2 := Below.trans (by go_grown) (Below.mono hb2 (by first | omega | (simp; done) | (simp; omega)))
  replace s1 := SlAt.grow s1 pw2
  clear pw2
  clear c1x0 f1x0 l1x0 l1x0d0 l1x0d1
  have c2x0 := Own.cell O2 0 rfl
  have f2x0 := Own.free O2 0 rfl
  have l2x0 := Own.lt O2 0 rfl
  have l2x0d0 := le_up 0 l2x0
  have l2x0d1 := le_up 1 l2x0
  simp only [upN] at l2x0d0 l2x0d1
  have HO2 := Lib.hid O2
  clear O2 hb2
  go_wp2_with fail
  refine (refWOf_any _ _).mono ?_
  rintro e w3 ⟨rfl, hb3⟩
  have O3 := Own.grow' hb3 HO2.out
  try simp only [List.setIfInBounds_toArray, List.set_cons_zero, List.set_cons_succ] at O3
  have bw3 : Below w.heap.size w w3 := Below.trans (by go_grown) (Below.mono hb3 (by first | omega | (simp; done) | (simp; omega)))
  have zw3 := Below.size hb3
  try simp only [World.size_alloc, World.size_drew, World.size_setCell] at zw3
  have pw3 : Below w2.heap.size w2 w3 := Below.trans (by go_grown) (Below.mono hb3 (by first | omega | (simp; done) | (simp; omega)))
  replace s1 := SlAt.grow s1 pw3
  clear pw3
  clear c2x0 f2x0 l2x0 l2x0d0 l2x0d1
  have c3x0 := Own.cell O3 0 rfl
  have f3x0 := Own.free O3 0 rfl
  have l3x0 := Own.lt O3 0 rfl
  have l3x0d0 := le_up 0 l3x0
  have l3x0d1 := le_up 1 l3x0
  simp only [upN] at l3x0d0 l3x0d1
  have HO3 := Lib.hid O3
  clear O3 hb3
  go_wp2_with fail
  refine wp_region_grow w3.heap.size 48 0 131076 [(0, 0, 65536, 16), (1, 1, 131072, 65536), (2, 2, 262144, 131072), (3, 4, 524288, 262144), (4, 0, 1048576, 16), (5, 16, 2097152, 1048576), (6, 40, 4194304, 2621440), (7, 72, 8388608, 4194304), (8, 128, 16777216, 8388610), (9, 384, 33554432, 25165824), (10, 640, 67108864, 41943040), (11, 1152, 134217728, 75497472), (12, 2560, 268435456, 134217728), (13, 4096, 536870912, 268435460), (14, 4096, 1073741824, 268435456), (15, 4096, 2147483648, 268435456), (16, 4096, 4294967296, 268435456), (17, 118784, 8589934592, 7784628224), (18, 143360, 17179869184, 9395240960), (19, 266240, 34359738368, 17448304640), (20, 786432, 68719476736, 34359738368), (21, 1048576, 137438953472, 68719476744), (22, 3145728, 274877906944, 206158430208), (23, 5242880, 549755813888, 343597383680), (24, 9437184, 1099511627776, 618475290624), (25, 20971520, 2199023255552, 1099511627776), (26, 33554432, 4398046511104, 2199023255568), (27, 100663296, 8796093022208, 6597069766656), (28, 33554432, 17592186044416, 2199023255584), (29, 301989888, 35184372088832, 19791209299968), (30, 704643072, 70368744177664, 46179488366592), (31, 1107296256, 140737488355328, 72567767433216), (32, 3221225472, 281474976710656, 140737488355328), (33, 4294967296, 562949953421312, 281474976710672), (34, 12884901888, 1125899906842624, 844424930131968), (35, 4294967296, 2251799813685248, 281474976710688), (36, 38654705664, 4503599627370496, 2533274790395904), (37, 90194313216, 9007199254740992, 5910974510923776), (38, 141733920768, 18014398509481984, 9288674231451648), (39, 279172874240, 36028797018963968, 18295873486192640), (40, 687194767360, 72057594037927936, 36028797018963968), (41, 1099511627776, 144115188075855872, 72057594037927952), (42, 3298534883328, 288230376151711744, 216172782113783808), (43, 1099511627776, 576460752303423488, 72057594037927952), (44, 9895604649984, 1152921504606846976, 648518346341351424), (45, 23089744183296, 2305843009213693952, 1513209474796486656), (46, 36283883716608, 4611686018427387904, 2377900603251621888), (47, 71468255805440, 9223372036854775808, 4683743612465315840), (48, 281474976710655, 1, 9223372036854775808)] [(.p 0, 1), (.p 1, 3), (.p 4, 19), (.p 5, 51), (.g 2, 55), (.q 3, 63), (.p 6, 127), (.p 7, 255), (.p 8, 511), (.p 9, 1023), (.p 10, 2047), (.p 11, 4095), (.p 12, 8191), (.p 13, 16383), (.p 14, 32767), (.p 15, 65535), (.p 16, 131071), (.g 17, 262143), (.q 18, 524287), (.p 19, 1048575), (.p 20, 2097151), (.p 21, 4194303), (.p 22, 8388607), (.p 23, 16777215), (.p 24, 33554431), (.p 25, 67108863), (.p 26, 134217727), (.p 27, 268435455), (.p 28, 536870911), (.p 29, 1073741823), (.p 30, 2147483647), (.p 31, 4294967295), (.p 32, 8589934591), (.p 33, 17179869183), (.p 34, 34359738367), (.p 35, 68719476735), (.p 36, 137438953471), (.p 37, 274877906943), (.p 38, 549755813887), (.p 39, 1099511627775), (.p 40, 2199023255551), (.p 41, 4398046511103), (.p 42, 8796093022207), (.p 43, 17592186044415), (.p 44, 35184372088831), (.p 45, 70368744177663), (.p 46, 140737488355327), (.p 47, 281474976710655)] [(48, 562949953421311)] _ (fun p hp => hp) (by first | omega | (simp; done) | (simp; omega)) (by kernel_rfl) (by kernel_rfl) (Own.new (Own.new HO3.out (w3.heap.size) rfl) (w3.heap.size + 1) (by simp)) ?_
  refine wpG_pure (i := 0) (v := ?v4x0) rfl rfl (by rfl) (fun w hB hG K hK => ?h4x0) ?_
  case h4x0 =>
    have cx := Own.cell hG 1 rfl
    go_wp2_with fail
    exact hK _ (Below.refl _ _)
  simp only [List.set_cons_zero, List.set_cons_succ]
  refine wpG_pure (i := 1) (v := ?v4x1) rfl rfl (by rfl) (fun w hB hG K hK => ?h4x1) ?_
  case h4x1 =>
    go_wp2_with fail
    exact hK _ (Below.refl _ _)
  simp only [List.set_cons_zero, List.set_cons_succ]
  refine wpG_pure (i := 4) (v := ?v4x4) rfl rfl (by rfl) (fun w hB hG K hK => ?h4x4) ?_
  case h4x4 =>
    have cx := Own.cell hG 1 rfl
    go_wp2_with fail
    exact hK _ (Below.refl _ _)
  simp only [List.set_cons_zero, List.set_cons_succ]
  refine wpG_pure (i := 5) (v := ?v4x5) rfl rfl (by rfl) (fun w hB hG K hK => ?h4x5) ?_
  case h4x5 =>
    go_wp2_with fail
    exact hK _ (Below.refl _ _)
  simp only [List.set_cons_zero, List.set_cons_succ]
  refine wpG_gen (GivesT (cellsC (wcells five 1)) (32)) (i := 2) rfl rfl (by rfl) (fun w hB hG K hK => ?h4x2) (fun v4g1 T4g1 N4g1 lT4g1 nT4g1 => ?_)
  case h4x2 =>
    go_wp2_with fail
    refine (wcell _).mono ?_
    rintro e wx ⟨Ax, cx, rfl, _, _, hbx, Tx, h1x, h2x, h3x⟩
    exact hK _ _ _ h1x hbx h2x h3x
  simp only [List.set_cons_zero, List.set_cons_succ]
  obtain ⟨A4g1, c4g1, rfl, m4g1, S4g1⟩ := N4g1
  refine wpG_op (i := 3) (v := ?v4x3) rfl rfl (by rfl) (fun w hB hG K hK => ?h4x3) ?_
  case h4x3 =>
    go_wp2_with fail
    refine (wword _ _ _ (S4g1 _ (Own.left hG)) m4g1).mono ?_
    rintro e wx ⟨rfl, hbx⟩
    exact hK _ hbx
  simp only [List.set_cons_zero, List.set_cons_succ]
  refine wpG_pure (i := 6) (v := ?v4x6) rfl rfl (by rfl) (fun w hB hG K hK => ?h4x6) ?_
  case h4x6 =>
    have hq := eqVal0 5 0 0 0 1 5 0 0 0 1
    go_wp2_with fail
    exact hK _ (Below.refl _ _)
  simp only [List.set_cons_zero, List.set_cons_succ]
  refine wpG_move (i := 7) rfl rfl rfl (by rfl) rfl ?_
  simp only [List.set_cons_zero, List.set_cons_succ]
  refine wpG_move (i := 8) rfl rfl rfl (by rfl) rfl ?_
  simp only [List.set_cons_zero, List.set_cons_succ]
  refine wpG_pure (i := 9) (v := ?v4x9) rfl rfl (by rfl) (fun w hB hG K hK => ?h4x9) ?_
  case h4x9 =>
    go_wp2_with fail
    have hsl := SlAt.of_blk (hG.get 2 rfl)
    refine (wlabel _ _ hsl).mono ?_
    rintro e wx ⟨rfl, hbx⟩
    exact hK _ hbx
  simp only [List.set_cons_zero, List.set_cons_succ]
  refine wpG_pure (i := 10) (v := ?v4x10) rfl rfl (by rfl) (fun w hB hG K hK => ?h4x10) ?_
  case h4x10 =>
    go_wp2_with fail
    exact hK _ (Below.refl _ _)
  simp only [List.set_cons_zero, List.set_cons_succ]
  refine wpG_pure (i := 11) (v := ?v4x11) rfl rfl (by rfl) (fun w hB hG K hK => ?h4x11) ?_
  case h4x11 =>
    go_wp2_with fail
    exact hK _ (Below.refl _ _)
  simp only [List.set_cons_zero, List.set_cons_succ]
  refine wpG_move (i := 12) rfl rfl rfl (by rfl) rfl ?_
  simp only [List.set_cons_zero, List.set_cons_succ]
  refine wpG_move (i := 13) rfl rfl rfl (by rfl) rfl ?_
  simp only [List.set_cons_zero, List.set_cons_succ]
  refine wpG_pure (i := 14) (v := ?v4x14) rfl rfl (by rfl) (fun w hB hG K hK => ?h4x14) ?_
  case h4x14 =>
    go_wp2_with fail
    exact hK _ (Below.refl _ _)
  simp only [List.set_cons_zero, List.set_cons_succ]
  refine wpG_pure (i := 15) (v := ?v4x15) rfl rfl (by rfl) (fun w hB hG K hK => ?h4x15) ?_
  case h4x15 =>
    go_wp2_with fail
    exact hK _ (Below.refl _ _)
  simp only [List.set_cons_zero, List.set_cons_succ]
  refine wpG_pure (i := 16) (v := ?v4x16) rfl rfl (by rfl) (fun w hB hG K hK => ?h4x16) ?_
  case h4x16 =>
    go_wp2_with fail
    exact hK _ (Below.refl _ _)
  simp only [List.set_cons_zero, List.set_cons_succ]
  refine wpG_make (i := 17) (c := ?c4x17) (t := ?t4x17) (fun b => .slice (some ⟨b, 0, none⟩) 3 3) rfl rfl (by rfl) (fun w hB hG K hK => ?h4x17) (fun v4g2 l4g2 n4g2 => ?_)
  case h4x17 =>
    go_wp2_with fail
    exact hK
  simp only [List.set_cons_zero, List.set_cons_succ]
  try simp only [World.size_alloc, World.size_drew, World.size_setCell] at l4g2
  clear n4g2
  refine wpG_op (i := 18) (v := ?v4x18) rfl rfl (by rfl) (fun w hB hG K hK => ?h4x18) ?_
  case h4x18 =>
    go_wp2_with fail
    have hsm := SlAt.below s1 rfl (Below.trans (by go_grown) hB)
    have hsl := SlAt.of_blk (hG.get 0 rfl)
    refine (wequal _ _ _ _ hsm hsl m1).mono ?_
    rintro e wx ⟨rfl, hbx⟩
    exact hK _ hbx
  simp only [List.set_cons_zero, List.set_cons_succ]
  refine wpG_pure (i := 19) (v := ?v4x19) rfl rfl (by rfl) (fun w hB hG K hK => ?h4x19) ?_
  case h4x19 =>
    go_wp2_with fail
    exact hK _ (Below.refl _ _)
  simp only [List.set_cons_zero, List.set_cons_succ]
  refine wpG_move (i := 20) rfl rfl rfl (by rfl) rfl ?_
  simp only [List.set_cons_zero, List.set_cons_succ]
  refine wpG_move (i := 21) rfl rfl rfl (by rfl) rfl ?_
  simp only [List.set_cons_zero, List.set_cons_succ]
  refine wpG_pure (i := 22) (v := ?v4x22) rfl rfl (by rfl) (fun w hB hG K hK => ?h4x22) ?_
  case h4x22 =>
    go_wp2_with fail
    refine (num_any _ _).mono ?_
    rintro e wx ⟨rfl, rfl⟩
    exact hK _ (Below.refl _ _)
  simp only [List.set_cons_zero, List.set_cons_succ]
  refine wpG_pure (i := 23) (v := ?v4x23) rfl rfl (by rfl) (fun w hB hG K hK => ?h4x23) ?_
  case h4x23 =>
    go_wp2_with fail
    exact hK _ (Below.refl _ _)
  simp only [List.set_cons_zero, List.set_cons_succ]
  refine wpG_pure (i := 24) (v := ?v4x24) rfl rfl (by rfl) (fun w hB hG K hK => ?h4x24) ?_
  case h4x24 =>
    go_wp2_with fail
    exact hK _ (Below.refl _ _)
  simp only [List.set_cons_zero, List.set_cons_succ]
  refine wpG_move (i := 25) rfl rfl rfl (by rfl) rfl ?_
  simp only [List.set_cons_zero, List.set_cons_succ]
  refine wpG_pure (i := 26) (v := ?v4x26) rfl rfl (by rfl) (fun w hB hG K hK => ?h4x26) ?_
  case h4x26 =>
    have cx := Own.cell hG 1 rfl
    go_wp2_with fail
    exact hK _ (Below.refl _ _)
  simp only [List.set_cons_zero, List.set_cons_succ]
  refine wpG_pure (i := 27) (v := ?v4x27) rfl rfl (by rfl) (fun w hB hG K hK => ?h4x27) ?_
  case h4x27 =>
    go_wp2_with fail
    exact hK _ (Below.refl _ _)
  simp only [List.set_cons_zero, List.set_cons_succ]
  refine wpG_pure (i := 28) (v := ?v4x28) rfl rfl (by rfl) (fun w hB hG K hK => ?h4x28) ?_
  case h4x28 =>
    have cx := Own.cell hG 0 rfl
    go_wp2_with fail
    exact hK _ (Below.refl _ _)
  simp only [List.set_cons_zero, List.set_cons_succ]
  refine wpG_pure (i := 29) (v := ?v4x29) rfl rfl (by rfl) (fun w hB hG K hK => ?h4x29) ?_
  case h4x29 =>
    go_wp2_with fail
    exact hK _ (Below.refl _ _)
  simp only [List.set_cons_zero, List.set_cons_succ]
  refine wpG_pure (i := 30) (v := ?v4x30) rfl rfl (by rfl) (fun w hB hG K hK => ?h4x30) ?_
  case h4x30 =>
    go_wp2_with fail
    refine (wsame30 _).mono ?_
    rintro e wx ⟨rfl, hbx⟩
    exact hK _ hbx
  simp only [List.set_cons_zero, List.set_cons_succ]
  refine wpG_pure (i := 31) (v := ?v4x31) rfl rfl (by rfl) (fun w hB hG K hK => ?h4x31) ?_
  case h4x31 =>
    go_wp2_with fail
    exact hK _ (Below.refl _ _)
  simp only [List.set_cons_zero, List.set_cons_succ]
  refine wpG_move (i := 32) rfl rfl rfl (by rfl) rfl ?_
  simp only [List.set_cons_zero, List.set_cons_succ]
  refine wpG_pure (i := 33) (v := ?v4x33) rfl rfl (by rfl) (fun w hB hG K hK => ?h4x33) ?_
  case h4x33 =>
    have cx := Own.cell hG 1 rfl
    go_wp2_with fail
    exact hK _ (Below.refl _ _)
  simp only [List.set_cons_zero, List.set_cons_succ]
  refine wpG_pure (i := 34) (v := ?v4x34) rfl rfl (by rfl) (fun w hB hG K hK => ?h4x34) ?_
  case h4x34 =>
    go_wp2_with fail
    exact hK _ (Below.refl _ _)
  simp only [List.set_cons_zero, List.set_cons_succ]
  refine wpG_pure (i := 35) (v := ?v4x35) rfl rfl (by rfl) (fun w hB hG K hK => ?h4x35) ?_
  case h4x35 =>
    have cx := Own.cell hG 0 rfl
    go_wp2_with fail
    exact hK _ (Below.refl _ _)
  simp only [List.set_cons_zero, List.set_cons_succ]
  refine wpG_pure (i := 36) (v := ?v4x36) rfl rfl (by rfl) (fun w hB hG K hK => ?h4x36) ?_
  case h4x36 =>
    go_wp2_with fail
    exact hK _ (Below.refl _ _)
  simp only [List.set_cons_zero, List.set_cons_succ]
  refine wpG_pure (i := 37) (v := ?v4x37) rfl rfl (by rfl) (fun w hB hG K hK => ?h4x37) ?_
  case h4x37 =>
    go_wp2_with fail
    refine (wsame37 _).mono ?_
    rintro e wx ⟨rfl, hbx⟩
    exact hK _ hbx
  simp only [List.set_cons_zero, List.set_cons_succ]
  refine wpG_pure (i := 38) (v := ?v4x38) rfl rfl (by rfl) (fun w hB hG K hK => ?h4x38) ?_
  case h4x38 =>
    go_wp2_with fail
    exact hK _ (Below.refl _ _)
  simp only [List.set_cons_zero, List.set_cons_succ]
  refine wpG_pure (i := 39) (v := ?v4x39) rfl rfl (by rfl) (fun w hB hG K hK => ?h4x39) ?_
  case h4x39 =>
    go_wp2_with fail
    exact hK _ (Below.refl _ _)
  simp only [List.set_cons_zero, List.set_cons_succ]
  refine wpG_move (i := 40) rfl rfl rfl (by rfl) rfl ?_
  simp only [List.set_cons_zero, List.set_cons_succ]
  refine wpG_pure (i := 41) (v := ?v4x41) rfl rfl (by rfl) (fun w hB hG K hK => ?h4x41) ?_
  case h4x41 =>
    have cx := Own.cell hG 1 rfl
    go_wp2_with fail
    exact hK _ (Below.refl _ _)
  simp only [List.set_cons_zero, List.set_cons_succ]
  refine wpG_pure (i := 42) (v := ?v4x42) rfl rfl (by rfl) (fun w hB hG K hK => ?h4x42) ?_
  case h4x42 =>
    go_wp2_with fail
    exact hK _ (Below.refl _ _)
  simp only [List.set_cons_zero, List.set_cons_succ]
  refine wpG_pure (i := 43) (v := ?v4x43) rfl rfl (by rfl) (fun w hB hG K hK => ?h4x43) ?_
  case h4x43 =>
    have cx := Own.cell hG 1 rfl
    go_wp2_with fail
    exact hK _ (Below.refl _ _)
  simp only [List.set_cons_zero, List.set_cons_succ]
  refine wpG_pure (i := 44) (v := ?v4x44) rfl rfl (by rfl) (fun w hB hG K hK => ?h4x44) ?_
  case h4x44 =>
    go_wp2_with fail
    exact hK _ (Below.refl _ _)
  simp only [List.set_cons_zero, List.set_cons_succ]
  refine wpG_pure (i := 45) (v := ?v4x45) rfl rfl (by rfl) (fun w hB hG K hK => ?h4x45) ?_
  case h4x45 =>
    go_wp2_with fail
    refine (wsame45 _).mono ?_
    rintro e wx ⟨rfl, hbx⟩
    exact hK _ hbx
  simp only [List.set_cons_zero, List.set_cons_succ]
  refine wpG_pure (i := 46) (v := ?v4x46) rfl rfl (by rfl) (fun w hB hG K hK => ?h4x46) ?_
  case h4x46 =>
    go_wp2_with fail
    exact hK _ (Below.refl _ _)
  simp only [List.set_cons_zero, List.set_cons_succ]
  refine wpG_pure (i := 47) (v := ?v4x47) rfl rfl (by rfl) (fun w hB hG K hK => ?h4x47) ?_
  case h4x47 =>
    go_wp2_with fail
    exact hK _ (Below.refl _ _)
  simp only [List.set_cons_zero, List.set_cons_succ]
  refine wpG_nil (fun w4 hb4 hG4 => ?_)
  simp only [List.append_eq, List.cons_append, List.nil_append, List.drop_succ_cons, List.drop_zero, List.drop_nil]
  have u4g2 := Own.lt hG4 0 rfl
  have O4 := Own.of hG4
  try simp only [List.setIfInBounds_toArray, List.set_cons_zero, List.set_cons_succ] at O4
  have bw4 : Below w.heap.size w w4 := Below.trans (by go_grown) (Below.mono hb4 (by first | omega | (simp; done) | (simp; omega)))
  have zw4 := Below.size hb4
  try simp only [World.size_alloc, World.size_drew, World.size_setCell] at zw4
  have pw4 : Below w3.heap.size w3 w4 := Below.trans (by go_grown) (Below.mono hb4 (by first | omega | (simp; done) | (simp; omega)))
  replace s1 := SlAt.grow s1 pw4
  clear pw4
  clear c3x0 f3x0 l3x0 l3x0d0 l3x0d1
  have c4x0 := Own.cell O4 0 rfl
  have f4x0 := Own.free O4 0 rfl
  have l4x0 := Own.lt O4 0 rfl
  have l4x0d0 := le_up 0 l4x0
  have l4x0d1 := le_up 1 l4x0
  simp only [upN] at l4x0d0 l4x0d1
  have c4x2 := Own.cell (Own.right (Own.tl O4)) 0 rfl
  have f4x2 := Own.free (Own.right (Own.tl O4)) 0 rfl
  have l4x2 := Own.lt (Own.right (Own.tl O4)) 0 rfl
  have l4x2d0 := le_up 0 l4x2
  have l4x2d1 := le_up 1 l4x2
  simp only [upN] at l4x2d0 l4x2d1
  have c4x3 := Own.cell (Own.tl (Own.right (Own.tl O4))) 0 rfl
  have f4x3 := Own.free (Own.tl (Own.right (Own.tl O4))) 0 rfl
  have l4x3 := Own.lt (Own.tl (Own.right (Own.tl O4))) 0 rfl
  have l4x3d0 := le_up 0 l4x3
  have l4x3d1 := le_up 1 l4x3
  simp only [upN] at l4x3d0 l4x3d1
  have c4x4 := Own.cell (Own.tl (Own.tl (Own.right (Own.tl O4)))) 0 rfl
  have f4x4 := Own.free (Own.tl (Own.tl (Own.right (Own.tl O4)))) 0 rfl
  have l4x4 := Own.lt (Own.tl (Own.tl (Own.right (Own.tl O4)))) 0 rfl
  have l4x4d0 := le_up 0 l4x4
  have l4x4d1 := le_up 1 l4x4
  simp only [upN] at l4x4d0 l4x4d1
  have HO4 := Lib.hid O4
  clear O4 hb4
  go_wp2_with fail
  go_ret
  exact ⟨rfl, by go_grown⟩

end Go.Proofs.Ytknkepokkenokaa
