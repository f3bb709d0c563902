/- The law TagCells: its walks. -/
import Derived.Test.YtknkepokkenokaaTagP
import Derived.Laws.BytesArg
set_option linter.unusedVariables false
set_option linter.unusedSimpArgs false
namespace Go.Proofs.Ytknkepokkenokaa
open Go.RowKit

theorem orI_comm {x y : Int} (hx : U x) (hy : U y) : orI x y = orI y x := by
  obtain ⟨X, rfl⟩ := Int.eq_ofNat_of_zero_le hx.1
  obtain ⟨Y, rfl⟩ := Int.eq_ofNat_of_zero_le hy.1
  have h1 := hx.2
  have h2 := hy.2
  unfold orI
  rw [bits_or_nat (X := X) (Y := Y) (by omega) (by omega), bits_or_nat (X := Y) (Y := X) (by omega) (by omega), Nat.or_comm]
theorem orI_pos (x y : Int) : 0 ≤ orI x y := by
  unfold orI
  show 0 ≤ IntKind.u64.wrap _
  rw [IntKind.wrap_u64]; omega
theorem bytesC_map (xs : List Int) : bytesC xs = xs.map (Value.int .u8) := by
  induction xs with
  | nil => rfl
  | cons x xs ih => show byteC x ++ bytesC xs = _; rw [ih]; rfl
/-- The text of bytes. -/
theorem str_sl {w : World} {A : Option Addr} {xs : List Int} {n : Nat} (cap : Nat) (h : SlAt w A (bytesC xs)) (hl : xs.length = n) :
    (convert 31 9 (.slice A n cap)).run Try.prog w = .ok (.string (strOfNums xs)) w := by
  have hu : Try.prog.underlying 31 = some (.slice 5) := by kernel_rfl
  have hb : Try.prog.underlying 5 = some (.int .u8) := by kernel_rfl
  have hs : Try.prog.underlying 9 = some .string := by kernel_rfl
  subst hl
  rcases h with h | ⟨b, off, rfl, hb2, hc⟩
  · obtain rfl : xs = [] := by rw [bytesC_map] at h; simpa using h
    rcases A with _ | A
    · exact run_convert_bytes_nil w _ _ hu hb 0 cap _ hs
    · rw [run_convert_bytes_string w _ _ _ _ _ cap hu hb hs]
      exact run_bytesToString w A 0 cap [] (run_loadCells_list w A [] (fun j v hj => by simp at hj))
  · refine run_convert_bytes_arg w _ _ hu hb b off _ cap xs rfl (fun i hi => ?_) _ hs
    refine hc i _ ?_
    rw [bytesC_map, List.getElem?_map, List.getElem?_eq_getElem hi]
    simp [List.getD, List.getElem?_eq_getElem hi]

set_option maxHeartbeats 16000000 in
set_option maxRecDepth 100000 in
theorem tcells_s1 (A : Option Addr) (n cap : Nat) (B : Option Addr) (m capb : Nat) (v0 v1 v2 v3 l : Int) (w : World) (h : 200 < n) :
    Calls Try.prog 4 #[.slice A n cap, .slice B m capb, .agg #[.int .u64 v0, .int .u64 v1, .int .u64 v2, .int .u64 v3, .int .u64 l]] w
      fun e w' => e = .returned (.bool true) ∧ Below w.heap.size w w' := by
  have d1 : decide ((200 : Int) < n) = true := by simp <;> omega
  go_enter Try.func4, Try.ntmps4
  go_wp2_with fail
  refine (works_any _).mono ?_
  rintro e w1 ⟨rfl, hb1⟩
  have O1 := Own.grow' hb1 (Own.new (Own.nil w) (w.heap.size) rfl)
  try simp only [List.setIfInBounds_toArray, List.set_cons_zero, List.set_cons_succ] at O1
  have bw1 : Below w.heap.size w w1 := Below.trans (by go_grown) (Below.mono hb1 (by first | omega | (simp; done) | (simp; omega)))
  have zw1 := Below.size hb1
  try simp only [World.size_alloc, World.size_drew, World.size_setCell] at zw1
  have c1x0 := Own.cell O1 0 rfl
  have f1x0 := Own.free O1 0 rfl
  have l1x0 := Own.lt O1 0 rfl
  have l1x0d0 := le_up 0 l1x0
  have l1x0d1 := le_up 1 l1x0
  simp only [upN] at l1x0d0 l1x0d1
  have HO1 := Lib.hid O1
  clear O1 hb1
  go_wp2_with fail
  go_ret
  exact ⟨rfl, by go_grown⟩

set_option maxHeartbeats 16000000 in
set_option maxRecDepth 100000 in
theorem tcells_s2 (A : Option Addr) (n cap : Nat) (B : Option Addr) (m capb : Nat) (v0 v1 v2 v3 l : Int) (w : World) (h : n ≤ 200) (h1 : 200 < m) :
    Calls Try.prog 4 #[.slice A n cap, .slice B m capb, .agg #[.int .u64 v0, .int .u64 v1, .int .u64 v2, .int .u64 v3, .int .u64 l]] w
      fun e w' => e = .returned (.bool true) ∧ Below w.heap.size w w' := by
  have d1 : decide ((200 : Int) < n) = false := by simp <;> omega
  have d2 : decide ((200 : Int) < m) = true := by simp <;> omega
  go_enter Try.func4, Try.ntmps4
  go_wp2_with fail
  refine (works_any _).mono ?_
  rintro e w1 ⟨rfl, hb1⟩
  have O1 := Own.grow' hb1 (Own.new (Own.nil w) (w.heap.size) rfl)
  try simp only [List.setIfInBounds_toArray, List.set_cons_zero, List.set_cons_succ] at O1
  have bw1 : Below w.heap.size w w1 := Below.trans (by go_grown) (Below.mono hb1 (by first | omega | (simp; done) | (simp; omega)))
  have zw1 := Below.size hb1
  try simp only [World.size_alloc, World.size_drew, World.size_setCell] at zw1
  have c1x0 := Own.cell O1 0 rfl
  have f1x0 := Own.free O1 0 rfl
  have l1x0 := Own.lt O1 0 rfl
  have l1x0d0 := le_up 0 l1x0
  have l1x0d1 := le_up 1 l1x0
  simp only [upN] at l1x0d0 l1x0d1
  have HO1 := Lib.hid O1
  clear O1 hb1
  go_wp2_with fail
  go_ret
  exact ⟨rfl, by go_grown⟩

set_option maxHeartbeats 16000000 in
set_option maxRecDepth 100000 in
theorem tcells_g (A : Option Addr) (xs : List (Int × Int)) (cap : Nat) (B : Option Addr) (ys : List Int) (capb : Nat) (x : Nat → Nat) (l : Int) (w : World) (hS : SlAt w A (cellsC xs)) (hcap : xs.length ≤ cap) (hn : xs.length ≤ 200) (hT : SlAt w B (bytesC ys)) (hcapb : ys.length ≤ capb) (hm : ys.length ≤ 200)
    (hx0 : ∀ c ∈ xs, 0 ≤ c.1 ∧ c.1 < 256) (hx1 : ∀ c ∈ xs, U c.2) (hx : ∀ q, x q < 2 ^ 64) (hl : U l) :
    Calls Try.prog 4 #[.slice A xs.length cap, .slice B ys.length capb, .agg #[.int .u64 (x 0), .int .u64 (x 1), .int .u64 (x 2), .int .u64 (x 3), .int .u64 l]] w
      fun e w' => e = .returned (.bool true) ∧ Below w.heap.size w w' := by
  have HX := Lib.hid (fun (W : World) (hb : Below w.heap.size w W) => hS.below rfl hb)
  have HY := Lib.hid (fun (W : World) (hb : Below w.heap.size w W) => hT.below rfl hb)
  have HOf := Lib.hid (fun (W : World) (hW : SlAt W B (bytesC ys)) => ofs_any B ys capb l W hW hcapb (by omega))
  have HRf := Lib.hid (fun (W : World) (hW : SlAt W B (bytesC ys)) => refOf_any B ys capb l W hW hcapb (by omega))
  have HBy := Lib.hid (fun (W : World) (hW : SlAt W A (cellsC xs)) => bytes_any A xs cap W hW hcap (by omega))
  have HRb := Lib.hid (fun (W : World) (hW : SlAt W A (cellsC xs)) => refBytes_any A xs cap W hW hcap (by omega))
  have HLa := Lib.hid (fun (W : World) (hW : SlAt W A (cellsC xs)) => label_any A xs cap W hW hcap (by omega))
  have HRl := Lib.hid (fun (W : World) (hW : SlAt W A (cellsC xs)) => refLabel_any A xs cap W hW hcap (by omega))
  have hJ := fun (W : World) (hW : SlAt W A (cellsC xs)) => joins_any A xs cap l W hW hcap (by omega)
  rw [List.map_congr_left (g := fun c => (c.1, orI l c.2)) (fun c hc => by rw [orI_zero (hx1 c hc), orI_comm (hx1 c hc) hl])] at hJ
  have HJo := Lib.hid hJ
  have HRj := Lib.hid (fun (W : World) (hW : SlAt W A (cellsC xs)) => refJoins_any A xs cap l W hW hcap (by omega))
  have HCe := Lib.hid (fun (W : World) => show Calls Try.prog 20 #[.agg #[.int .u64 (x 0), .int .u64 (x 1), .int .u64 (x 2), .int .u64 (x 3), .int .u64 l]] W (Gives W (cellsC (wcells x l)) 32) from cells_any x l W hx)
  have HRc := Lib.hid (fun (W : World) => show Calls Try.prog 21 #[.agg #[.int .u64 (x 0), .int .u64 (x 1), .int .u64 (x 2), .int .u64 (x 3), .int .u64 l]] W (Gives W (cellsC (wcells x l)) 32) from refCells_any x l W hx)
  obtain ⟨g0, g1, g2, g3, gl, hg⟩ : ∃ g0 g1 g2 g3 gl : Int, valV (wordX xs) (wordL xs) = .agg #[.int .u64 g0, .int .u64 g1, .int .u64 g2, .int .u64 g3, .int .u64 gl] := ⟨_, _, _, _, _, rfl⟩
  have hW := fun (W : World) (hW : SlAt W A (cellsC xs)) => word_any A xs cap W hW hcap (by omega) hx0
  have hR := fun (W : World) (hW : SlAt W A (cellsC xs)) => refWord_any A xs cap W hW hcap (by omega) hx0
  rw [hg] at hW hR
  have HWo := Lib.hid hW
  have HRw := Lib.hid hR
  have L1 := Lib.hid (show (ys.map fun x => (x, l)).length = ys.length by simp)
  have L2 := Lib.hid (show (xs.map fun c => (c.1, orI l c.2)).length = xs.length by simp)
  have L3 := Lib.hid (show (xs.map Prod.fst).length = xs.length by simp)
  have P1 := Lib.hid (show ∀ q ∈ ys.map (fun x => (x, l)), 0 ≤ q.2 from fun q hq => by obtain ⟨y, _, rfl⟩ := List.mem_map.1 hq; exact hl.1)
  have P2 := Lib.hid (show ∀ q ∈ xs.map (fun c => (c.1, orI l c.2)), 0 ≤ q.2 from fun q hq => by obtain ⟨y, _, rfl⟩ := List.mem_map.1 hq; exact orI_pos _ _)
  have P3 := Lib.hid (show ∀ q ∈ wcells x l, 0 ≤ q.2 from fun q hq => by obtain ⟨y, _, rfl⟩ := List.mem_map.1 hq; exact hl.1)
  clear hS hT hJ hW hR hx0 hx1 hx hl hg
  generalize xs.length = n at *
  generalize ys.length = m at *
  have d1 : decide ((200 : Int) < n) = false := by simp <;> omega
  have d2 : decide ((200 : Int) < m) = false := by simp <;> omega
  go_enter Try.func4, Try.ntmps4
  go_wp2_with fail
  refine wp_region_grow w.heap.size 53 0 1383516358792 [(0, 0, 65536, 2), (1, 0, 131072, 32), (2, 2, 262144, 131072), (3, 5, 524288, 327680), (4, 0, 1048576, 2), (5, 0, 2097152, 32), (6, 32, 4194304, 2097152), (7, 88, 8388608, 5242880), (8, 136, 16777216, 8912896), (9, 256, 33554432, 16777216), (10, 512, 67108864, 33554433), (11, 1536, 134217728, 100663296), (12, 2560, 268435456, 167772160), (13, 512, 536870912, 33554433), (14, 10752, 1073741824, 570425344), (15, 16896, 2147483648, 1107296256), (16, 37376, 4294967296, 2449473536), (17, 66048, 8589934592, 4328521728), (18, 147456, 17179869184, 8589934592), (19, 262144, 34359738368, 17179869185), (20, 786432, 68719476736, 51539607552), (21, 262144, 137438953472, 17179869185), (22, 3407872, 274877906944, 154618822656), (23, 5505024, 549755813888, 360777252864), (24, 8650752, 1099511627776, 566935683072), (25, 20971520, 2199023255552, 1099511627776), (26, 33554432, 4398046511104, 2199023255584), (27, 100663296, 8796093022208, 6597069766656), (28, 33554432, 17592186044416, 2199023255553), (29, 436207616, 35184372088832, 28587302322176), (30, 33554432, 70368744177664, 2199023255584), (31, 1107296256, 140737488355328, 72567767433216), (32, 33554432, 281474976710656, 2199023255553), (33, 7012876288, 562949953421312, 424411488321536), (34, 9160359936, 1125899906842624, 600333348765696), (35, 17213423616, 2251799813685248, 1128098930098176), (36, 51539607552, 4503599627370496, 2251799813685248), (37, 68719476736, 9007199254740992, 4503599627370528), (38, 206158430208, 18014398509481984, 13510798882111488), (39, 68719476736, 36028797018963968, 4503599627370528), (40, 893353197568, 72057594037927936, 40532396646334464), (41, 1443109011456, 144115188075855872, 94575592174780416), (42, 2267742732288, 288230376151711744, 148618787703226368), (43, 6597069766656, 576460752303423488, 288230376151711744), (44, 8796093022208, 1152921504606846976, 576460752303423489), (45, 26388279066624, 2305843009213693952, 1729382256910270464), (46, 8796093022208, 4611686018427387904, 576460752303423489), (47, 114349209288704, 9223372036854775808, 5188146770730811392), (48, 184717953466368, 18446744073709551616, 12105675798371893248), (49, 290271069732864, 36893488147419103232, 19023204826012975104), (50, 703687441776640, 73786976294838206464, 36893488147419103232), (51, 1125899906842624, 147573952589676412928, 73786976294838206464), (52, 3377699720527872, 295147905179352825856, 221360928884514619392), (53, 9007199254740991, 64, 295147905179352825856)] [(.p 0, 1), (.p 1, 3), (.p 2, 7), (.p 4, 23), (.p 5, 55), (.p 6, 119), (.g 3, 127), (.g 7, 255), (.q 8, 511), (.p 9, 1023), (.p 10, 2047), (.p 13, 10239), (.g 11, 12287), (.q 12, 16383), (.g 14, 32767), (.q 15, 65535), (.p 16, 131071), (.p 17, 262143), (.p 18, 524287), (.p 19, 1048575), (.p 20, 2097151), (.p 21, 4194303), (.p 22, 8388607), (.p 23, 16777215), (.p 24, 33554431), (.p 25, 67108863), (.p 26, 134217727), (.p 27, 268435455), (.p 28, 536870911), (.p 30, 1610612735), (.p 31, 3758096383), (.p 32, 8053063679), (.g 29, 8589934591), (.g 33, 17179869183), (.q 34, 34359738367), (.p 35, 68719476735), (.p 36, 137438953471), (.p 37, 274877906943), (.p 39, 824633720831), (.g 38, 1099511627775), (.g 40, 2199023255551), (.q 41, 4398046511103), (.p 42, 8796093022207), (.p 43, 17592186044415), (.p 44, 35184372088831), (.p 45, 70368744177663), (.p 46, 140737488355327), (.p 47, 281474976710655), (.p 48, 562949953421311), (.p 49, 1125899906842623), (.p 50, 2251799813685247), (.p 51, 4503599627370495), (.p 52, 9007199254740991)] [(53, 18014398509481983)] _ (fun p hp => hp) (by first | omega | (simp; done) | (simp; omega)) (by kernel_rfl) (by kernel_rfl) (Own.new (Own.nil w) (w.heap.size) rfl) ?_
  refine wpG_move (i := 0) rfl rfl rfl (by rfl) rfl ?_
  simp only [List.set_cons_zero, List.set_cons_succ]
  refine wpG_pure (i := 1) (v := ?v1x1) rfl rfl (by rfl) (fun w hB hG K hK => ?h1x1) ?_
  case h1x1 =>
    go_wp2_with fail
    exact hK _ (Below.refl _ _)
  simp only [List.set_cons_zero, List.set_cons_succ]
  refine wpG_pure (i := 2) (v := ?v1x2) rfl rfl (by rfl) (fun w hB hG K hK => ?h1x2) ?_
  case h1x2 =>
    have cx := Own.cell hG 0 rfl
    go_wp2_with fail
    exact hK _ (Below.refl _ _)
  simp only [List.set_cons_zero, List.set_cons_succ]
  refine wpG_move (i := 4) rfl rfl rfl (by rfl) rfl ?_
  simp only [List.set_cons_zero, List.set_cons_succ]
  refine wpG_pure (i := 5) (v := ?v1x5) rfl rfl (by rfl) (fun w hB hG K hK => ?h1x5) ?_
  case h1x5 =>
    go_wp2_with fail
    exact hK _ (Below.refl _ _)
  simp only [List.set_cons_zero, List.set_cons_succ]
  refine wpG_pure (i := 6) (v := ?v1x6) rfl rfl (by rfl) (fun w hB hG K hK => ?h1x6) ?_
  case h1x6 =>
    have cx := Own.cell hG 0 rfl
    go_wp2_with fail
    exact hK _ (Below.refl _ _)
  simp only [List.set_cons_zero, List.set_cons_succ]
  refine wpG_gen (GivesT (cellsC (ys.map fun x => (x, l))) (m)) (i := 3) rfl rfl (by rfl) (fun w hB hG K hK => ?h1x3) (fun v1g1 T1g1 N1g1 lT1g1 nT1g1 => ?_)
  case h1x3 =>
    go_wp2_with fail
    refine (HOf.out _ (HY.out _ (Below.trans (by go_grown) hB))).mono ?_
    rintro e wx ⟨Ax, cx, rfl, _, _, hbx, Tx, h1x, h2x, h3x⟩
    exact hK _ _ _ h1x hbx h2x h3x
  simp only [List.set_cons_zero, List.set_cons_succ]
  obtain ⟨A1g1, c1g1, rfl, m1g1, S1g1⟩ := N1g1
  refine wpG_gen (GivesT (cellsC (ys.map fun x => (x, l))) (m)) (i := 7) rfl rfl (by rfl) (fun w hB hG K hK => ?h1x7) (fun v1g2 T1g2 N1g2 lT1g2 nT1g2 => ?_)
  case h1x7 =>
    go_wp2_with fail
    refine (HRf.out _ (HY.out _ (Below.trans (by go_grown) hB))).mono ?_
    rintro e wx ⟨Ax, cx, rfl, _, _, hbx, Tx, h1x, h2x, h3x⟩
    exact hK _ _ _ h1x hbx h2x h3x
  simp only [List.set_cons_zero, List.set_cons_succ]
  obtain ⟨A1g2, c1g2, rfl, m1g2, S1g2⟩ := N1g2
  refine wpG_op (i := 8) (v := ?v1x8) rfl rfl (by rfl) (fun w hB hG K hK => ?h1x8) ?_
  case h1x8 =>
    go_wp2_with fail
    refine (refEqual_self _ _ _ _ _ _ _ (S1g1 _ (Own.left (Own.right hG))) (S1g2 _ (Own.left hG)) L1.out m1g1 m1g2 (by omega) P1.out).mono ?_
    rintro e wx ⟨rfl, hbx⟩
    exact hK _ hbx
  simp only [List.set_cons_zero, List.set_cons_succ]
  refine wpG_move (i := 9) rfl rfl rfl (by rfl) rfl ?_
  simp only [List.set_cons_zero, List.set_cons_succ]
  refine wpG_move (i := 10) rfl rfl rfl (by rfl) rfl ?_
  simp only [List.set_cons_zero, List.set_cons_succ]
  refine wpG_move (i := 13) rfl rfl rfl (by rfl) rfl ?_
  simp only [List.set_cons_zero, List.set_cons_succ]
  refine wpG_gen (GivesT (bytesC (xs.map Prod.fst)) (n)) (i := 11) rfl rfl (by rfl) (fun w hB hG K hK => ?h1x11) (fun v1g3 T1g3 N1g3 lT1g3 nT1g3 => ?_)
  case h1x11 =>
    go_wp2_with fail
    refine (HBy.out _ (HX.out _ (Below.trans (by go_grown) hB))).mono ?_
    rintro e wx ⟨Ax, cx, rfl, _, _, hbx, Tx, h1x, h2x, h3x⟩
    exact hK _ _ _ h1x hbx h2x h3x
  simp only [List.set_cons_zero, List.set_cons_succ]
  obtain ⟨A1g3, c1g3, rfl, m1g3, S1g3⟩ := N1g3
  refine wpG_op (i := 12) (v := ?v1x12) rfl rfl (by rfl) (fun w hB hG K hK => ?h1x12) ?_
  case h1x12 =>
    have hcv := str_sl (n := n) c1g3 (S1g3 _ (Own.left hG)) L3.out
    go_wp2_with fail
    exact hK _ (Below.refl _ _)
  simp only [List.set_cons_zero, List.set_cons_succ]
  refine wpG_gen (GivesT (bytesC (xs.map Prod.fst)) (n)) (i := 14) rfl rfl (by rfl) (fun w hB hG K hK => ?h1x14) (fun v1g4 T1g4 N1g4 lT1g4 nT1g4 => ?_)
  case h1x14 =>
    go_wp2_with fail
    refine (HRb.out _ (HX.out _ (Below.trans (by go_grown) hB))).mono ?_
    rintro e wx ⟨Ax, cx, rfl, _, _, hbx, Tx, h1x, h2x, h3x⟩
    exact hK _ _ _ h1x hbx h2x h3x
  simp only [List.set_cons_zero, List.set_cons_succ]
  obtain ⟨A1g4, c1g4, rfl, m1g4, S1g4⟩ := N1g4
  refine wpG_op (i := 15) (v := ?v1x15) rfl rfl (by rfl) (fun w hB hG K hK => ?h1x15) ?_
  case h1x15 =>
    have hcv := str_sl (n := n) c1g4 (S1g4 _ (Own.left hG)) L3.out
    go_wp2_with fail
    exact hK _ (Below.refl _ _)
  simp only [List.set_cons_zero, List.set_cons_succ]
  refine wpG_pure (i := 16) (v := ?v1x16) rfl rfl (by rfl) (fun w hB hG K hK => ?h1x16) ?_
  case h1x16 =>
    go_wp2_with fail
    exact hK _ (Below.refl _ _)
  simp only [List.set_cons_zero, List.set_cons_succ]
  refine wpG_pure (i := 17) (v := ?v1x17) rfl rfl (by rfl) (fun w hB hG K hK => ?h1x17) ?_
  case h1x17 =>
    go_wp2_with fail
    exact hK _ (Below.refl _ _)
  simp only [List.set_cons_zero, List.set_cons_succ]
  refine wpG_move (i := 18) rfl rfl rfl (by rfl) rfl ?_
  simp only [List.set_cons_zero, List.set_cons_succ]
  refine wpG_move (i := 19) rfl rfl rfl (by rfl) rfl ?_
  simp only [List.set_cons_zero, List.set_cons_succ]
  refine wpG_pure (i := 20) (v := ?v1x20) rfl rfl (by rfl) (fun w hB hG K hK => ?h1x20) ?_
  case h1x20 =>
    go_wp2_with fail
    refine (HLa.out _ (HX.out _ (Below.trans (by go_grown) hB))).mono ?_
    rintro e wx ⟨rfl, hbx⟩
    exact hK _ hbx
  simp only [List.set_cons_zero, List.set_cons_succ]
  refine wpG_move (i := 21) rfl rfl rfl (by rfl) rfl ?_
  simp only [List.set_cons_zero, List.set_cons_succ]
  refine wpG_pure (i := 22) (v := ?v1x22) rfl rfl (by rfl) (fun w hB hG K hK => ?h1x22) ?_
  case h1x22 =>
    go_wp2_with fail
    refine (HRl.out _ (HX.out _ (Below.trans (by go_grown) hB))).mono ?_
    rintro e wx ⟨rfl, rfl⟩
    exact hK _ (Below.refl _ _)
  simp only [List.set_cons_zero, List.set_cons_succ]
  refine wpG_pure (i := 23) (v := ?v1x23) rfl rfl (by rfl) (fun w hB hG K hK => ?h1x23) ?_
  case h1x23 =>
    go_wp2_with fail
    exact hK _ (Below.refl _ _)
  simp only [List.set_cons_zero, List.set_cons_succ]
  refine wpG_pure (i := 24) (v := ?v1x24) rfl rfl (by rfl) (fun w hB hG K hK => ?h1x24) ?_
  case h1x24 =>
    go_wp2_with fail
    exact hK _ (Below.refl _ _)
  simp only [List.set_cons_zero, List.set_cons_succ]
  refine wpG_move (i := 25) rfl rfl rfl (by rfl) rfl ?_
  simp only [List.set_cons_zero, List.set_cons_succ]
  refine wpG_pure (i := 26) (v := ?v1x26) rfl rfl (by rfl) (fun w hB hG K hK => ?h1x26) ?_
  case h1x26 =>
    go_wp2_with fail
    exact hK _ (Below.refl _ _)
  simp only [List.set_cons_zero, List.set_cons_succ]
  refine wpG_pure (i := 27) (v := ?v1x27) rfl rfl (by rfl) (fun w hB hG K hK => ?h1x27) ?_
  case h1x27 =>
    have cx := Own.cell hG 0 rfl
    go_wp2_with fail
    exact hK _ (Below.refl _ _)
  simp only [List.set_cons_zero, List.set_cons_succ]
  refine wpG_move (i := 28) rfl rfl rfl (by rfl) rfl ?_
  simp only [List.set_cons_zero, List.set_cons_succ]
  refine wpG_pure (i := 30) (v := ?v1x30) rfl rfl (by rfl) (fun w hB hG K hK => ?h1x30) ?_
  case h1x30 =>
    go_wp2_with fail
    exact hK _ (Below.refl _ _)
  simp only [List.set_cons_zero, List.set_cons_succ]
  refine wpG_pure (i := 31) (v := ?v1x31) rfl rfl (by rfl) (fun w hB hG K hK => ?h1x31) ?_
  case h1x31 =>
    have cx := Own.cell hG 0 rfl
    go_wp2_with fail
    exact hK _ (Below.refl _ _)
  simp only [List.set_cons_zero, List.set_cons_succ]
  refine wpG_move (i := 32) rfl rfl rfl (by rfl) rfl ?_
  simp only [List.set_cons_zero, List.set_cons_succ]
  refine wpG_gen (GivesT (cellsC (xs.map fun c => (c.1, orI l c.2))) (n)) (i := 29) rfl rfl (by rfl) (fun w hB hG K hK => ?h1x29) (fun v1g5 T1g5 N1g5 lT1g5 nT1g5 => ?_)
  case h1x29 =>
    go_wp2_with fail
    refine (HJo.out _ (HX.out _ (Below.trans (by go_grown) hB))).mono ?_
    rintro e wx ⟨Ax, cx, rfl, _, _, hbx, Tx, h1x, h2x, h3x⟩
    exact hK _ _ _ h1x hbx h2x h3x
  simp only [List.set_cons_zero, List.set_cons_succ]
  obtain ⟨A1g5, c1g5, rfl, m1g5, S1g5⟩ := N1g5
  refine wpG_gen (GivesT (cellsC (xs.map fun c => (c.1, orI l c.2))) (n)) (i := 33) rfl rfl (by rfl) (fun w hB hG K hK => ?h1x33) (fun v1g6 T1g6 N1g6 lT1g6 nT1g6 => ?_)
  case h1x33 =>
    go_wp2_with fail
    refine (HRj.out _ (HX.out _ (Below.trans (by go_grown) hB))).mono ?_
    rintro e wx ⟨Ax, cx, rfl, _, _, hbx, Tx, h1x, h2x, h3x⟩
    exact hK _ _ _ h1x hbx h2x h3x
  simp only [List.set_cons_zero, List.set_cons_succ]
  obtain ⟨A1g6, c1g6, rfl, m1g6, S1g6⟩ := N1g6
  refine wpG_op (i := 34) (v := ?v1x34) rfl rfl (by rfl) (fun w hB hG K hK => ?h1x34) ?_
  case h1x34 =>
    go_wp2_with fail
    refine (refEqual_self _ _ _ _ _ _ _ (S1g5 _ (Own.left (Own.right hG))) (S1g6 _ (Own.left hG)) L2.out m1g5 m1g6 (by omega) P2.out).mono ?_
    rintro e wx ⟨rfl, hbx⟩
    exact hK _ hbx
  simp only [List.set_cons_zero, List.set_cons_succ]
  refine wpG_pure (i := 35) (v := ?v1x35) rfl rfl (by rfl) (fun w hB hG K hK => ?h1x35) ?_
  case h1x35 =>
    go_wp2_with fail
    exact hK _ (Below.refl _ _)
  simp only [List.set_cons_zero, List.set_cons_succ]
  refine wpG_move (i := 36) rfl rfl rfl (by rfl) rfl ?_
  simp only [List.set_cons_zero, List.set_cons_succ]
  refine wpG_pure (i := 37) (v := ?v1x37) rfl rfl (by rfl) (fun w hB hG K hK => ?h1x37) ?_
  case h1x37 =>
    have cx := Own.cell hG 0 rfl
    go_wp2_with fail
    exact hK _ (Below.refl _ _)
  simp only [List.set_cons_zero, List.set_cons_succ]
  refine wpG_pure (i := 39) (v := ?v1x39) rfl rfl (by rfl) (fun w hB hG K hK => ?h1x39) ?_
  case h1x39 =>
    have cx := Own.cell hG 0 rfl
    go_wp2_with fail
    exact hK _ (Below.refl _ _)
  simp only [List.set_cons_zero, List.set_cons_succ]
  refine wpG_gen (GivesT (cellsC (wcells x l)) (32)) (i := 38) rfl rfl (by rfl) (fun w hB hG K hK => ?h1x38) (fun v1g7 T1g7 N1g7 lT1g7 nT1g7 => ?_)
  case h1x38 =>
    go_wp2_with fail
    refine (HCe.out _).mono ?_
    rintro e wx ⟨Ax, cx, rfl, _, _, hbx, Tx, h1x, h2x, h3x⟩
    exact hK _ _ _ h1x hbx h2x h3x
  simp only [List.set_cons_zero, List.set_cons_succ]
  obtain ⟨A1g7, c1g7, rfl, m1g7, S1g7⟩ := N1g7
  refine wpG_gen (GivesT (cellsC (wcells x l)) (32)) (i := 40) rfl rfl (by rfl) (fun w hB hG K hK => ?h1x40) (fun v1g8 T1g8 N1g8 lT1g8 nT1g8 => ?_)
  case h1x40 =>
    go_wp2_with fail
    refine (HRc.out _).mono ?_
    rintro e wx ⟨Ax, cx, rfl, _, _, hbx, Tx, h1x, h2x, h3x⟩
    exact hK _ _ _ h1x hbx h2x h3x
  simp only [List.set_cons_zero, List.set_cons_succ]
  obtain ⟨A1g8, c1g8, rfl, m1g8, S1g8⟩ := N1g8
  refine wpG_op (i := 41) (v := ?v1x41) rfl rfl (by rfl) (fun w hB hG K hK => ?h1x41) ?_
  case h1x41 =>
    go_wp2_with fail
    refine (refEqual_self _ _ _ _ _ _ _ (S1g7 _ (Own.left (Own.right hG))) (S1g8 _ (Own.left hG)) (wcells_len _ _) m1g7 m1g8 (by omega) P3.out).mono ?_
    rintro e wx ⟨rfl, hbx⟩
    exact hK _ hbx
  simp only [List.set_cons_zero, List.set_cons_succ]
  refine wpG_pure (i := 42) (v := ?v1x42) rfl rfl (by rfl) (fun w hB hG K hK => ?h1x42) ?_
  case h1x42 =>
    go_wp2_with fail
    exact hK _ (Below.refl _ _)
  simp only [List.set_cons_zero, List.set_cons_succ]
  refine wpG_move (i := 43) rfl rfl rfl (by rfl) rfl ?_
  simp only [List.set_cons_zero, List.set_cons_succ]
  refine wpG_move (i := 44) rfl rfl rfl (by rfl) rfl ?_
  simp only [List.set_cons_zero, List.set_cons_succ]
  refine wpG_pure (i := 45) (v := ?v1x45) rfl rfl (by rfl) (fun w hB hG K hK => ?h1x45) ?_
  case h1x45 =>
    go_wp2_with fail
    refine (HWo.out _ (HX.out _ (Below.trans (by go_grown) hB))).mono ?_
    rintro e wx ⟨rfl, hbx⟩
    exact hK _ hbx
  simp only [List.set_cons_zero, List.set_cons_succ]
  refine wpG_move (i := 46) rfl rfl rfl (by rfl) rfl ?_
  simp only [List.set_cons_zero, List.set_cons_succ]
  refine wpG_pure (i := 47) (v := ?v1x47) rfl rfl (by rfl) (fun w hB hG K hK => ?h1x47) ?_
  case h1x47 =>
    go_wp2_with fail
    refine (HRw.out _ (HX.out _ (Below.trans (by go_grown) hB))).mono ?_
    rintro e wx ⟨rfl, hbx⟩
    exact hK _ hbx
  simp only [List.set_cons_zero, List.set_cons_succ]
  refine wpG_pure (i := 48) (v := ?v1x48) rfl rfl (by rfl) (fun w hB hG K hK => ?h1x48) ?_
  case h1x48 =>
    have hq := eqVal0 g0 g1 g2 g3 gl g0 g1 g2 g3 gl
    go_wp2_with fail
    exact hK _ (Below.refl _ _)
  simp only [List.set_cons_zero, List.set_cons_succ]
  refine wpG_pure (i := 49) (v := ?v1x49) rfl rfl (by rfl) (fun w hB hG K hK => ?h1x49) ?_
  case h1x49 =>
    go_wp2_with fail
    exact hK _ (Below.refl _ _)
  simp only [List.set_cons_zero, List.set_cons_succ]
  refine wpG_move (i := 50) rfl rfl rfl (by rfl) rfl ?_
  simp only [List.set_cons_zero, List.set_cons_succ]
  refine wpG_pure (i := 51) (v := ?v1x51) rfl rfl (by rfl) (fun w hB hG K hK => ?h1x51) ?_
  case h1x51 =>
    go_wp2_with fail
    refine (works_any _).mono ?_
    rintro e wx ⟨rfl, hbx⟩
    exact hK _ hbx
  simp only [List.set_cons_zero, List.set_cons_succ]
  refine wpG_pure (i := 52) (v := ?v1x52) rfl rfl (by rfl) (fun w hB hG K hK => ?h1x52) ?_
  case h1x52 =>
    go_wp2_with fail
    exact hK _ (Below.refl _ _)
  simp only [List.set_cons_zero, List.set_cons_succ]
  refine wpG_nil (fun w1 hb1 hG1 => ?_)
  simp only [List.append_eq, List.cons_append, List.nil_append, List.drop_succ_cons, List.drop_zero, List.drop_nil]
  have O1 := Own.of hG1
  try simp only [List.setIfInBounds_toArray, List.set_cons_zero, List.set_cons_succ] at O1
  have bw1 : Below w.heap.size w w1 := Below.trans (by go_grown) (Below.mono hb1 (by first | omega | (simp; done) | (simp; omega)))
  have zw1 := Below.size hb1
  try simp only [World.size_alloc, World.size_drew, World.size_setCell] at zw1
  have c1x8 := Own.cell (Own.right (Own.right (Own.right (Own.right (Own.right (Own.right (Own.right (Own.right O1)))))))) 0 rfl
  have f1x8 := Own.free (Own.right (Own.right (Own.right (Own.right (Own.right (Own.right (Own.right (Own.right O1)))))))) 0 rfl
  have l1x8 := Own.lt (Own.right (Own.right (Own.right (Own.right (Own.right (Own.right (Own.right (Own.right O1)))))))) 0 rfl
  have l1x8d0 := le_up 0 l1x8
  have l1x8d1 := le_up 1 l1x8
  simp only [upN] at l1x8d0 l1x8d1
  have HO1 := Lib.hid O1
  clear O1 hb1
  go_wp2_with fail
  go_ret
  exact ⟨rfl, by go_grown⟩

theorem tcells_any (A : Option Addr) (xs : List (Int × Int)) (cap : Nat) (B : Option Addr) (ys : List Int) (capb : Nat) (v0 v1 v2 v3 l : Int) (w : World) (hS : SlAt w A (cellsC xs)) (hcap : xs.length ≤ cap) (hT : SlAt w B (bytesC ys)) (hcapb : ys.length ≤ capb)
    (hx0 : ∀ c ∈ xs, 0 ≤ c.1 ∧ c.1 < 256) (hx1 : ∀ c ∈ xs, U c.2) (h0 : U v0) (h1 : U v1) (h2 : U v2) (h3 : U v3) (hl : U l) :
    Calls Try.prog 4 #[.slice A xs.length cap, .slice B ys.length capb, .agg #[.int .u64 v0, .int .u64 v1, .int .u64 v2, .int .u64 v3, .int .u64 l]] w
      fun e w' => e = .returned (.bool true) ∧ Below w.heap.size w w' := by
  by_cases hn : 200 < xs.length
  · exact tcells_s1 _ _ _ _ _ _ _ _ _ _ _ _ hn
  by_cases hm : 200 < ys.length
  · exact tcells_s2 _ _ _ _ _ _ _ _ _ _ _ _ (by omega) hm
  obtain ⟨a, rfl⟩ := Int.eq_ofNat_of_zero_le h0.1
  obtain ⟨b, rfl⟩ := Int.eq_ofNat_of_zero_le h1.1
  obtain ⟨c, rfl⟩ := Int.eq_ofNat_of_zero_le h2.1
  obtain ⟨d, rfl⟩ := Int.eq_ofNat_of_zero_le h3.1
  have e0 := h0.2
  have e1 := h1.2
  have e2 := h2.2
  have e3 := h3.2
  exact tcells_g A xs cap B ys capb (fun q => match q with | 0 => a | 1 => b | 2 => c | 3 => d | _ => 0) l w hS hcap (by omega) hT hcapb (by omega) hx0 hx1 (fun q => by
    match q with
    | 0 => show a < _; omega
    | 1 => show b < _; omega
    | 2 => show c < _; omega
    | 3 => show d < _; omega
    | _ + 4 => exact Nat.two_pow_pos 64) hl
end Go.Proofs.Ytknkepokkenokaa
