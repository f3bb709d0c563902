/- GaugeParts: split, given back, alike. -/
import Derived.Test.YtjmplababaejaaaGaugeT
import Derived.Test.YtjmplababaejaaaGaugeW
import Derived.Test.YtjmplababaejaaaGaugeO
import Derived.Test.YtjmplababaejaaaGaugeN
import Derived.Test.YtjmplababaejaaaGaugeP
import Derived.Test.YtjmplababaejaaaGaugeQ
import Derived.Test.YtjmplababaejaaaGaugeH
set_option linter.unusedVariables false
set_option linter.unusedSimpArgs false
namespace Go.Proofs.Ytjmplababaejaaa
open Go.RowKit

theorem splitVal_form (g : Kn) (m : Int) : ∃ (x y : Kn) (e : Int), splitVal g m = .tuple #[.agg #[.int .u64 x.l, .int .u64 x.lo, .int .u64 x.hi, .int .u64 x.a], .agg #[.int .u64 y.l, .int .u64 y.lo, .int .u64 y.hi, .int .u64 y.a], .int .i64 e] := by
  unfold splitVal
  split
  · exact ⟨⟨_, _, _, _⟩, ⟨_, _, _, _⟩, _, rfl⟩
  · exact ⟨⟨0, 0, 0, 0⟩, ⟨0, 0, 0, 0⟩, 2, rfl⟩
theorem backVal_form (g h : Kn) (m : Int) : ∃ (x y : Kn) (e : Int), backVal g h m = .tuple #[.agg #[.int .u64 x.l, .int .u64 x.lo, .int .u64 x.hi, .int .u64 x.a], .agg #[.int .u64 y.l, .int .u64 y.lo, .int .u64 y.hi, .int .u64 y.a], .int .i64 e] := by
  unfold backVal
  split
  · exact ⟨⟨_, _, _, _⟩, ⟨_, _, _, _⟩, _, rfl⟩
  · exact ⟨⟨0, 0, 0, 0⟩, ⟨0, 0, 0, 0⟩, 2, rfl⟩

set_option maxHeartbeats 16000000 in
set_option maxRecDepth 100000 in
theorem parts_any (g h : Kn) (n m up : Int) (w : World) (hg : 0 ≤ g.lo) (hh : 0 ≤ h.lo) (ha : U g.a) (hn : 0 ≤ n) (hm : 0 ≤ m) (hu : U up) :
    Calls Try.prog 3 #[.agg #[.int .u64 g.l, .int .u64 g.lo, .int .u64 g.hi, .int .u64 g.a, .int .u64 h.l, .int .u64 h.lo, .int .u64 h.hi, .int .u64 h.a], .agg #[.int .u64 n, .int .u64 m], .int .u64 up] w
      fun e w' => e = .returned (.bool true) ∧ Below w.heap.size w w' := by
  obtain ⟨x, y, e1, hs⟩ := splitVal_form g n
  obtain ⟨p, q, e2, hbk⟩ := backVal_form g h m
  have h1 := fun W : World => split_any g n W hg hn
  have h2 := fun W : World => refSplit_any g n W hg hn
  have h3 := fun W : World => back_any g h m W hg hh hm ha
  have h4 := fun W : World => refBack_any g h m W hg
  have h5 := fun W : World => alike_any g h up W
  have h6 := fun W : World => refAlike_any g h up W ha.1 hu.1
  rw [hs] at h1 h2
  rw [hbk] at h3 h4
  rw [← below_same g.a up ha hu] at h6
  generalize ((!belowI g.a up || decide (g.l = h.l)) && (decide (g.lo = h.lo) && (decide (g.hi = h.hi) && decide (g.a = h.a)))) = bb at h5 h6
  have H1 := Lib.hid h1
  have H2 := Lib.hid h2
  have H3 := Lib.hid h3
  have H4 := Lib.hid h4
  have H5 := Lib.hid h5
  have H6 := Lib.hid h6
  clear h1 h2 h3 h4 h5 h6 hs hbk hg hh ha hn hm hu
  go_enter Try.func3, Try.ntmps3
  go_wp2_with fail
  refine (H1.out _).mono ?_
  rintro e w1 ⟨rfl, hb1⟩
  have O1 := Own.grow' hb1 (Own.new (Own.new (Own.nil w) (w.heap.size) rfl) (w.heap.size + 1) (by simp))
  try simp only [List.setIfInBounds_toArray, List.set_cons_zero, List.set_cons_succ] at O1
  have bw1 : Below w.heap.size w w1 := Below.trans (by go_grown) (Below.mono hb1 (by first | omega | (simp; done) | (simp; omega)))
  have zw1 := Below.size hb1
  try simp only [World.size_alloc, World.size_drew, World.size_setCell] at zw1
  have c1x0 := O1.cell 0 rfl
  have f1x0 := O1.free 0 rfl
  have l1x0 := O1.lt 0 rfl
  have l1x0d0 := le_up 0 l1x0
  have l1x0d1 := le_up 1 l1x0
  simp only [upN] at l1x0d0 l1x0d1
  have c1x1 := O1.cell 1 rfl
  have f1x1 := O1.free 1 rfl
  have l1x1 := O1.lt 1 rfl
  have l1x1d0 := le_up 0 l1x1
  have l1x1d1 := le_up 1 l1x1
  simp only [upN] at l1x1d0 l1x1d1
  have HO1 := Lib.hid O1
  clear O1 hb1
  go_wp2_with fail
  refine (H2.out _).mono ?_
  rintro e w2 ⟨rfl, hb2⟩
  have O2 := Own.grow' hb2 (Own.new (Own.new HO1.out (w1.heap.size) rfl) (w1.heap.size + 1) (by simp))
  try simp only [List.setIfInBounds_toArray, List.set_cons_zero, List.set_cons_succ] at O2
  have bw2 : Below w.heap.size w w2 := Below.trans (by go_grown) (Below.mono hb2 (by first | omega | (simp; done) | (simp; omega)))
  have zw2 := Below.size hb2
  try simp only [World.size_alloc, World.size_drew, World.size_setCell] at zw2
  clear c1x0 f1x0 l1x0 l1x0d0 l1x0d1 c1x1 f1x1 l1x1 l1x1d0 l1x1d1
  have c2x0 := O2.cell 0 rfl
  have f2x0 := O2.free 0 rfl
  have l2x0 := O2.lt 0 rfl
  have l2x0d0 := le_up 0 l2x0
  have l2x0d1 := le_up 1 l2x0
  simp only [upN] at l2x0d0 l2x0d1
  have c2x1 := O2.cell 1 rfl
  have f2x1 := O2.free 1 rfl
  have l2x1 := O2.lt 1 rfl
  have l2x1d0 := le_up 0 l2x1
  have l2x1d1 := le_up 1 l2x1
  simp only [upN] at l2x1d0 l2x1d1
  have c2x2 := O2.cell 2 rfl
  have f2x2 := O2.free 2 rfl
  have l2x2 := O2.lt 2 rfl
  have l2x2d0 := le_up 0 l2x2
  have l2x2d1 := le_up 1 l2x2
  simp only [upN] at l2x2d0 l2x2d1
  have c2x3 := O2.cell 3 rfl
  have f2x3 := O2.free 3 rfl
  have l2x3 := O2.lt 3 rfl
  have l2x3d0 := le_up 0 l2x3
  have l2x3d1 := le_up 1 l2x3
  simp only [upN] at l2x3d0 l2x3d1
  have HO2 := Lib.hid O2
  clear O2 hb2
  go_wp2_with fail
  refine (H3.out _).mono ?_
  rintro e w3 ⟨rfl, hb3⟩
  have O3 := Own.grow' hb3 (Own.new (Own.new HO2.out (w2.heap.size) rfl) (w2.heap.size + 1) (by simp))
  try simp only [List.setIfInBounds_toArray, List.set_cons_zero, List.set_cons_succ] at O3
  have bw3 : Below w.heap.size w w3 := Below.trans (by go_grown) (Below.mono hb3 (by first | omega | (simp; done) | (simp; omega)))
  have zw3 := Below.size hb3
  try simp only [World.size_alloc, World.size_drew, World.size_setCell] at zw3
  clear c2x0 f2x0 l2x0 l2x0d0 l2x0d1 c2x1 f2x1 l2x1 l2x1d0 l2x1d1 c2x2 f2x2 l2x2 l2x2d0 l2x2d1 c2x3 f2x3 l2x3 l2x3d0 l2x3d1
  have c3x0 := O3.cell 0 rfl
  have f3x0 := O3.free 0 rfl
  have l3x0 := O3.lt 0 rfl
  have l3x0d0 := le_up 0 l3x0
  have l3x0d1 := le_up 1 l3x0
  simp only [upN] at l3x0d0 l3x0d1
  have c3x1 := O3.cell 1 rfl
  have f3x1 := O3.free 1 rfl
  have l3x1 := O3.lt 1 rfl
  have l3x1d0 := le_up 0 l3x1
  have l3x1d1 := le_up 1 l3x1
  simp only [upN] at l3x1d0 l3x1d1
  have c3x2 := O3.cell 2 rfl
  have f3x2 := O3.free 2 rfl
  have l3x2 := O3.lt 2 rfl
  have l3x2d0 := le_up 0 l3x2
  have l3x2d1 := le_up 1 l3x2
  simp only [upN] at l3x2d0 l3x2d1
  have c3x3 := O3.cell 3 rfl
  have f3x3 := O3.free 3 rfl
  have l3x3 := O3.lt 3 rfl
  have l3x3d0 := le_up 0 l3x3
  have l3x3d1 := le_up 1 l3x3
  simp only [upN] at l3x3d0 l3x3d1
  have c3x4 := O3.cell 4 rfl
  have f3x4 := O3.free 4 rfl
  have l3x4 := O3.lt 4 rfl
  have l3x4d0 := le_up 0 l3x4
  have l3x4d1 := le_up 1 l3x4
  simp only [upN] at l3x4d0 l3x4d1
  have c3x5 := O3.cell 5 rfl
  have f3x5 := O3.free 5 rfl
  have l3x5 := O3.lt 5 rfl
  have l3x5d0 := le_up 0 l3x5
  have l3x5d1 := le_up 1 l3x5
  simp only [upN] at l3x5d0 l3x5d1
  have HO3 := Lib.hid O3
  clear O3 hb3
  go_wp2_with fail
  refine (H4.out _).mono ?_
  rintro e w4 ⟨rfl, hb4⟩
  have O4 := Own.grow' hb4 (Own.new (Own.new HO3.out (w3.heap.size) rfl) (w3.heap.size + 1) (by simp))
  try simp only [List.setIfInBounds_toArray, List.set_cons_zero, List.set_cons_succ] at O4
  have bw4 : Below w.heap.size w w4 := Below.trans (by go_grown) (Below.mono hb4 (by first | omega | (simp; done) | (simp; omega)))
  have zw4 := Below.size hb4
  try simp only [World.size_alloc, World.size_drew, World.size_setCell] at zw4
  clear c3x0 f3x0 l3x0 l3x0d0 l3x0d1 c3x1 f3x1 l3x1 l3x1d0 l3x1d1 c3x2 f3x2 l3x2 l3x2d0 l3x2d1 c3x3 f3x3 l3x3 l3x3d0 l3x3d1 c3x4 f3x4 l3x4 l3x4d0 l3x4d1 c3x5 f3x5 l3x5 l3x5d0 l3x5d1
  have c4x0 := O4.cell 0 rfl
  have f4x0 := O4.free 0 rfl
  have l4x0 := O4.lt 0 rfl
  have l4x0d0 := le_up 0 l4x0
  have l4x0d1 := le_up 1 l4x0
  simp only [upN] at l4x0d0 l4x0d1
  have c4x1 := O4.cell 1 rfl
  have f4x1 := O4.free 1 rfl
  have l4x1 := O4.lt 1 rfl
  have l4x1d0 := le_up 0 l4x1
  have l4x1d1 := le_up 1 l4x1
  simp only [upN] at l4x1d0 l4x1d1
  have c4x2 := O4.cell 2 rfl
  have f4x2 := O4.free 2 rfl
  have l4x2 := O4.lt 2 rfl
  have l4x2d0 := le_up 0 l4x2
  have l4x2d1 := le_up 1 l4x2
  simp only [upN] at l4x2d0 l4x2d1
  have c4x3 := O4.cell 3 rfl
  have f4x3 := O4.free 3 rfl
  have l4x3 := O4.lt 3 rfl
  have l4x3d0 := le_up 0 l4x3
  have l4x3d1 := le_up 1 l4x3
  simp only [upN] at l4x3d0 l4x3d1
  have c4x4 := O4.cell 4 rfl
  have f4x4 := O4.free 4 rfl
  have l4x4 := O4.lt 4 rfl
  have l4x4d0 := le_up 0 l4x4
  have l4x4d1 := le_up 1 l4x4
  simp only [upN] at l4x4d0 l4x4d1
  have c4x5 := O4.cell 5 rfl
  have f4x5 := O4.free 5 rfl
  have l4x5 := O4.lt 5 rfl
  have l4x5d0 := le_up 0 l4x5
  have l4x5d1 := le_up 1 l4x5
  simp only [upN] at l4x5d0 l4x5d1
  have c4x6 := O4.cell 6 rfl
  have f4x6 := O4.free 6 rfl
  have l4x6 := O4.lt 6 rfl
  have l4x6d0 := le_up 0 l4x6
  have l4x6d1 := le_up 1 l4x6
  simp only [upN] at l4x6d0 l4x6d1
  have c4x7 := O4.cell 7 rfl
  have f4x7 := O4.free 7 rfl
  have l4x7 := O4.lt 7 rfl
  have l4x7d0 := le_up 0 l4x7
  have l4x7d1 := le_up 1 l4x7
  simp only [upN] at l4x7d0 l4x7d1
  have HO4 := Lib.hid O4
  clear O4 hb4
  go_wp2_with fail
  refine wp_region_grow w.heap.size 40 0 0 [(0, 0, 576460752303423488, 128), (1, 0, 1152921504606846976, 1024), (2, 0, 2305843009213693952, 512), (3, 0, 4611686018427387904, 4096), (4, 15, 9223372036854775808, 8646911284551352320), (5, 16, 18446744073709551616, 9223372036854775808), (6, 32, 36893488147419103232, 18446744073709551872), (7, 32, 73786976294838206464, 18446744073709553664), (8, 224, 147573952589676412928, 129127208515966861312), (9, 288, 295147905179352825856, 166020696663385964544), (10, 544, 590295810358705651712, 295147905179352825856), (11, 1024, 1180591620717411303424, 590295810358705659904), (12, 1024, 2361183241434822606848, 590295810358705717248), (13, 1024, 4722366482869645213696, 590295810358705684480), (14, 1024, 9444732965739290427392, 590295810358705913856), (15, 31744, 18889465931478580854784, 18299170121119875203072), (16, 33792, 37778931862957161709568, 19479761741837286506496), (17, 98304, 75557863725914323419136, 37778931862957161709568), (18, 131072, 151115727451828646838272, 75557863725914323435520), (19, 131072, 302231454903657293676544, 75557863725914323550208), (20, 917504, 604462909807314587353088, 528905046081400263933952), (21, 1179648, 1208925819614629174706176, 680020773533228910772224), (22, 2228224, 2417851639229258349412352, 1208925819614629174706176), (23, 4194304, 4835703278458516698824704, 2417851639229258349412360), (24, 12582912, 9671406556917033397649408, 7253554917687775048237056), (25, 4194304, 19342813113834066795298816, 2417851639229258349412360), (26, 37748736, 38685626227668133590597632, 21760664753063325144711168), (27, 4194304, 77371252455336267181195264, 2417851639229258349412356), (28, 222298112, 154742504910672534362390528, 128146136879150692518854656), (29, 4194304, 309485009821345068724781056, 2417851639229258349412360), (30, 541065216, 618970019642690137449562112, 311902861460574327074193408), (31, 4194304, 1237940039285380274899124224, 2417851639229258349412360), (32, 2151677952, 2475880078570760549798248448, 1240357890924609533248536576), (33, 4194304, 4951760157141521099596496896, 2417851639229258349412356), (34, 14231273472, 9903520314283042199192993792, 8049028106994201045193719808), (35, 17452498944, 19807040628566084398385987584, 10060680670832943991904796672), (36, 34363932672, 39614081257132168796771975168, 19809458480205313656735399936), (37, 85899345920, 79228162514264337593543950336, 39614081257132168796771975168), (38, 137438953472, 158456325028528675187087900672, 79228162514264337593543950336), (39, 412316860416, 316912650057057350374175801344, 237684487542793012780631851008), (40, 1099511627775, 64, 316912650057057350374175801344)] [(.p 0, 1), (.p 1, 3), (.p 2, 7), (.p 3, 15), (.p 4, 31), (.p 5, 63), (.p 6, 127), (.p 7, 255), (.p 8, 511), (.p 9, 1023), (.p 10, 2047), (.p 11, 4095), (.p 12, 8191), (.p 13, 16383), (.p 14, 32767), (.p 15, 65535), (.p 16, 131071), (.p 17, 262143), (.p 18, 524287), (.p 19, 1048575), (.p 20, 2097151), (.p 21, 4194303), (.p 22, 8388607), (.p 23, 16777215), (.p 24, 33554431), (.p 25, 67108863), (.p 26, 134217727), (.p 27, 268435455), (.p 28, 536870911), (.p 29, 1073741823), (.p 30, 2147483647), (.p 31, 4294967295), (.p 32, 8589934591), (.p 33, 17179869183), (.p 34, 34359738367), (.p 35, 68719476735), (.p 36, 137438953471), (.p 37, 274877906943), (.p 38, 549755813887), (.p 39, 1099511627775)] [(40, 2199023255551)] _ (fun p hp => hp) (by first | omega | (simp; done) | (simp; omega)) (by kernel_rfl) (by kernel_rfl) (Own.new (Own.new HO4.out (w4.heap.size) rfl) (w4.heap.size + 1) (by simp)) ?_
  refine wpG_pure (i := 0) (v := ?v5x0) rfl rfl (by rfl) (fun w hB hG K hK => ?h5x0) ?_
  case h5x0 =>
    have cx := hG.cell 7 rfl
    go_wp2_with fail
    exact hK _ (Below.refl _ _)
  simp only [List.set_cons_zero, List.set_cons_succ]
  refine wpG_pure (i := 1) (v := ?v5x1) rfl rfl (by rfl) (fun w hB hG K hK => ?h5x1) ?_
  case h5x1 =>
    have cx := hG.cell 5 rfl
    go_wp2_with fail
    exact hK _ (Below.refl _ _)
  simp only [List.set_cons_zero, List.set_cons_succ]
  refine wpG_move (i := 2) rfl rfl rfl (by rfl) rfl ?_
  simp only [List.set_cons_zero, List.set_cons_succ]
  refine wpG_move (i := 3) rfl rfl rfl (by rfl) rfl ?_
  simp only [List.set_cons_zero, List.set_cons_succ]
  refine wpG_pure (i := 4) (v := ?v5x4) rfl rfl (by rfl) (fun w hB hG K hK => ?h5x4) ?_
  case h5x4 =>
    go_wp2_with fail
    refine (told_same _ _ _).mono ?_
    rintro e wx ⟨rfl, hbx⟩
    exact hK _ hbx
  simp only [List.set_cons_zero, List.set_cons_succ]
  refine wpG_move (i := 5) rfl rfl rfl (by rfl) rfl ?_
  simp only [List.set_cons_zero, List.set_cons_succ]
  refine wpG_pure (i := 6) (v := ?v5x6) rfl rfl (by rfl) (fun w hB hG K hK => ?h5x6) ?_
  case h5x6 =>
    have cx := hG.cell 6 rfl
    go_wp2_with fail
    exact hK _ (Below.refl _ _)
  simp only [List.set_cons_zero, List.set_cons_succ]
  refine wpG_pure (i := 7) (v := ?v5x7) rfl rfl (by rfl) (fun w hB hG K hK => ?h5x7) ?_
  case h5x7 =>
    have cx := hG.cell 4 rfl
    go_wp2_with fail
    exact hK _ (Below.refl _ _)
  simp only [List.set_cons_zero, List.set_cons_succ]
  refine wpG_pure (i := 8) (v := ?v5x8) rfl rfl (by rfl) (fun w hB hG K hK => ?h5x8) ?_
  case h5x8 =>
    go_wp2_with fail
    exact hK _ (Below.refl _ _)
  simp only [List.set_cons_zero, List.set_cons_succ]
  refine wpG_pure (i := 9) (v := ?v5x9) rfl rfl (by rfl) (fun w hB hG K hK => ?h5x9) ?_
  case h5x9 =>
    go_wp2_with fail
    exact hK _ (Below.refl _ _)
  simp only [List.set_cons_zero, List.set_cons_succ]
  refine wpG_move (i := 10) rfl rfl rfl (by rfl) rfl ?_
  simp only [List.set_cons_zero, List.set_cons_succ]
  refine wpG_pure (i := 11) (v := ?v5x11) rfl rfl (by rfl) (fun w hB hG K hK => ?h5x11) ?_
  case h5x11 =>
    have cx := hG.cell 3 rfl
    go_wp2_with fail
    exact hK _ (Below.refl _ _)
  simp only [List.set_cons_zero, List.set_cons_succ]
  refine wpG_pure (i := 12) (v := ?v5x12) rfl rfl (by rfl) (fun w hB hG K hK => ?h5x12) ?_
  case h5x12 =>
    have cx := hG.cell 1 rfl
    go_wp2_with fail
    exact hK _ (Below.refl _ _)
  simp only [List.set_cons_zero, List.set_cons_succ]
  refine wpG_move (i := 13) rfl rfl rfl (by rfl) rfl ?_
  simp only [List.set_cons_zero, List.set_cons_succ]
  refine wpG_move (i := 14) rfl rfl rfl (by rfl) rfl ?_
  simp only [List.set_cons_zero, List.set_cons_succ]
  refine wpG_pure (i := 15) (v := ?v5x15) rfl rfl (by rfl) (fun w hB hG K hK => ?h5x15) ?_
  case h5x15 =>
    go_wp2_with fail
    refine (told_same _ _ _).mono ?_
    rintro e wx ⟨rfl, hbx⟩
    exact hK _ hbx
  simp only [List.set_cons_zero, List.set_cons_succ]
  refine wpG_pure (i := 16) (v := ?v5x16) rfl rfl (by rfl) (fun w hB hG K hK => ?h5x16) ?_
  case h5x16 =>
    go_wp2_with fail
    exact hK _ (Below.refl _ _)
  simp only [List.set_cons_zero, List.set_cons_succ]
  refine wpG_move (i := 17) rfl rfl rfl (by rfl) rfl ?_
  simp only [List.set_cons_zero, List.set_cons_succ]
  refine wpG_pure (i := 18) (v := ?v5x18) rfl rfl (by rfl) (fun w hB hG K hK => ?h5x18) ?_
  case h5x18 =>
    have cx := hG.cell 2 rfl
    go_wp2_with fail
    exact hK _ (Below.refl _ _)
  simp only [List.set_cons_zero, List.set_cons_succ]
  refine wpG_pure (i := 19) (v := ?v5x19) rfl rfl (by rfl) (fun w hB hG K hK => ?h5x19) ?_
  case h5x19 =>
    have cx := hG.cell 0 rfl
    go_wp2_with fail
    exact hK _ (Below.refl _ _)
  simp only [List.set_cons_zero, List.set_cons_succ]
  refine wpG_pure (i := 20) (v := ?v5x20) rfl rfl (by rfl) (fun w hB hG K hK => ?h5x20) ?_
  case h5x20 =>
    go_wp2_with fail
    exact hK _ (Below.refl _ _)
  simp only [List.set_cons_zero, List.set_cons_succ]
  refine wpG_pure (i := 21) (v := ?v5x21) rfl rfl (by rfl) (fun w hB hG K hK => ?h5x21) ?_
  case h5x21 =>
    go_wp2_with fail
    exact hK _ (Below.refl _ _)
  simp only [List.set_cons_zero, List.set_cons_succ]
  refine wpG_move (i := 22) rfl rfl rfl (by rfl) rfl ?_
  simp only [List.set_cons_zero, List.set_cons_succ]
  refine wpG_pure (i := 23) (v := ?v5x23) rfl rfl (by rfl) (fun w hB hG K hK => ?h5x23) ?_
  case h5x23 =>
    go_wp2_with fail
    exact hK _ (Below.refl _ _)
  simp only [List.set_cons_zero, List.set_cons_succ]
  refine wpG_pure (i := 24) (v := ?v5x24) rfl rfl (by rfl) (fun w hB hG K hK => ?h5x24) ?_
  case h5x24 =>
    have cx := hG.cell 9 rfl
    go_wp2_with fail
    exact hK _ (Below.refl _ _)
  simp only [List.set_cons_zero, List.set_cons_succ]
  refine wpG_pure (i := 25) (v := ?v5x25) rfl rfl (by rfl) (fun w hB hG K hK => ?h5x25) ?_
  case h5x25 =>
    go_wp2_with fail
    exact hK _ (Below.refl _ _)
  simp only [List.set_cons_zero, List.set_cons_succ]
  refine wpG_pure (i := 26) (v := ?v5x26) rfl rfl (by rfl) (fun w hB hG K hK => ?h5x26) ?_
  case h5x26 =>
    have cx := hG.cell 9 rfl
    go_wp2_with fail
    exact hK _ (Below.refl _ _)
  simp only [List.set_cons_zero, List.set_cons_succ]
  refine wpG_move (i := 27) rfl rfl rfl (by rfl) rfl ?_
  simp only [List.set_cons_zero, List.set_cons_succ]
  refine wpG_pure (i := 28) (v := ?v5x28) rfl rfl (by rfl) (fun w hB hG K hK => ?h5x28) ?_
  case h5x28 =>
    go_wp2_with fail
    refine (H5.out _).mono ?_
    rintro e wx ⟨rfl, hbx⟩
    exact hK _ hbx
  simp only [List.set_cons_zero, List.set_cons_succ]
  refine wpG_pure (i := 29) (v := ?v5x29) rfl rfl (by rfl) (fun w hB hG K hK => ?h5x29) ?_
  case h5x29 =>
    go_wp2_with fail
    exact hK _ (Below.refl _ _)
  simp only [List.set_cons_zero, List.set_cons_succ]
  refine wpG_pure (i := 30) (v := ?v5x30) rfl rfl (by rfl) (fun w hB hG K hK => ?h5x30) ?_
  case h5x30 =>
    have cx := hG.cell 9 rfl
    go_wp2_with fail
    exact hK _ (Below.refl _ _)
  simp only [List.set_cons_zero, List.set_cons_succ]
  refine wpG_pure (i := 31) (v := ?v5x31) rfl rfl (by rfl) (fun w hB hG K hK => ?h5x31) ?_
  case h5x31 =>
    go_wp2_with fail
    exact hK _ (Below.refl _ _)
  simp only [List.set_cons_zero, List.set_cons_succ]
  refine wpG_pure (i := 32) (v := ?v5x32) rfl rfl (by rfl) (fun w hB hG K hK => ?h5x32) ?_
  case h5x32 =>
    have cx := hG.cell 9 rfl
    go_wp2_with fail
    exact hK _ (Below.refl _ _)
  simp only [List.set_cons_zero, List.set_cons_succ]
  refine wpG_move (i := 33) rfl rfl rfl (by rfl) rfl ?_
  simp only [List.set_cons_zero, List.set_cons_succ]
  refine wpG_pure (i := 34) (v := ?v5x34) rfl rfl (by rfl) (fun w hB hG K hK => ?h5x34) ?_
  case h5x34 =>
    go_wp2_with fail
    refine (H6.out _).mono ?_
    rintro e wx ⟨rfl, hbx⟩
    exact hK _ hbx
  simp only [List.set_cons_zero, List.set_cons_succ]
  refine wpG_pure (i := 35) (v := ?v5x35) rfl rfl (by rfl) (fun w hB hG K hK => ?h5x35) ?_
  case h5x35 =>
    go_wp2_with fail
    exact hK _ (Below.refl _ _)
  simp only [List.set_cons_zero, List.set_cons_succ]
  refine wpG_pure (i := 36) (v := ?v5x36) rfl rfl (by rfl) (fun w hB hG K hK => ?h5x36) ?_
  case h5x36 =>
    go_wp2_with fail
    exact hK _ (Below.refl _ _)
  simp only [List.set_cons_zero, List.set_cons_succ]
  refine wpG_move (i := 37) rfl rfl rfl (by rfl) rfl ?_
  simp only [List.set_cons_zero, List.set_cons_succ]
  refine wpG_pure (i := 38) (v := ?v5x38) rfl rfl (by rfl) (fun w hB hG K hK => ?h5x38) ?_
  case h5x38 =>
    go_wp2_with fail
    refine (works_any _).mono ?_
    rintro e wx ⟨rfl, hbx⟩
    exact hK _ hbx
  simp only [List.set_cons_zero, List.set_cons_succ]
  refine wpG_pure (i := 39) (v := ?v5x39) rfl rfl (by rfl) (fun w hB hG K hK => ?h5x39) ?_
  case h5x39 =>
    go_wp2_with fail
    exact hK _ (Below.refl _ _)
  simp only [List.set_cons_zero, List.set_cons_succ]
  refine wpG_nil (fun w5 hb5 hG5 => ?_)
  simp only [List.append_eq, List.cons_append, List.nil_append, List.drop_succ_cons, List.drop_zero, List.drop_nil]
  have O5 := Own.of hG5
  try simp only [List.setIfInBounds_toArray, List.set_cons_zero, List.set_cons_succ] at O5
  have bw5 : Below w.heap.size w w5 := Below.trans (by go_grown) (Below.mono hb5 (by first | omega | (simp; done) | (simp; omega)))
  have zw5 := Below.size hb5
  try simp only [World.size_alloc, World.size_drew, World.size_setCell] at zw5
  clear c4x0 f4x0 l4x0 l4x0d0 l4x0d1 c4x1 f4x1 l4x1 l4x1d0 l4x1d1 c4x2 f4x2 l4x2 l4x2d0 l4x2d1 c4x3 f4x3 l4x3 l4x3d0 l4x3d1 c4x4 f4x4 l4x4 l4x4d0 l4x4d1 c4x5 f4x5 l4x5 l4x5d0 l4x5d1 c4x6 f4x6 l4x6 l4x6d0 l4x6d1 c4x7 f4x7 l4x7 l4x7d0 l4x7d1
  have c5x0 := O5.cell 0 rfl
  have f5x0 := O5.free 0 rfl
  have l5x0 := O5.lt 0 rfl
  have l5x0d0 := le_up 0 l5x0
  have l5x0d1 := le_up 1 l5x0
  simp only [upN] at l5x0d0 l5x0d1
  have c5x1 := O5.cell 1 rfl
  have f5x1 := O5.free 1 rfl
  have l5x1 := O5.lt 1 rfl
  have l5x1d0 := le_up 0 l5x1
  have l5x1d1 := le_up 1 l5x1
  simp only [upN] at l5x1d0 l5x1d1
  have c5x2 := O5.cell 2 rfl
  have f5x2 := O5.free 2 rfl
  have l5x2 := O5.lt 2 rfl
  have l5x2d0 := le_up 0 l5x2
  have l5x2d1 := le_up 1 l5x2
  simp only [upN] at l5x2d0 l5x2d1
  have c5x3 := O5.cell 3 rfl
  have f5x3 := O5.free 3 rfl
  have l5x3 := O5.lt 3 rfl
  have l5x3d0 := le_up 0 l5x3
  have l5x3d1 := le_up 1 l5x3
  simp only [upN] at l5x3d0 l5x3d1
  have c5x4 := O5.cell 4 rfl
  have f5x4 := O5.free 4 rfl
  have l5x4 := O5.lt 4 rfl
  have l5x4d0 := le_up 0 l5x4
  have l5x4d1 := le_up 1 l5x4
  simp only [upN] at l5x4d0 l5x4d1
  have c5x5 := O5.cell 5 rfl
  have f5x5 := O5.free 5 rfl
  have l5x5 := O5.lt 5 rfl
  have l5x5d0 := le_up 0 l5x5
  have l5x5d1 := le_up 1 l5x5
  simp only [upN] at l5x5d0 l5x5d1
  have c5x6 := O5.cell 6 rfl
  have f5x6 := O5.free 6 rfl
  have l5x6 := O5.lt 6 rfl
  have l5x6d0 := le_up 0 l5x6
  have l5x6d1 := le_up 1 l5x6
  simp only [upN] at l5x6d0 l5x6d1
  have c5x7 := O5.cell 7 rfl
  have f5x7 := O5.free 7 rfl
  have l5x7 := O5.lt 7 rfl
  have l5x7d0 := le_up 0 l5x7
  have l5x7d1 := le_up 1 l5x7
  simp only [upN] at l5x7d0 l5x7d1
  have c5x8 := O5.cell 8 rfl
  have f5x8 := O5.free 8 rfl
  have l5x8 := O5.lt 8 rfl
  have l5x8d0 := le_up 0 l5x8
  have l5x8d1 := le_up 1 l5x8
  simp only [upN] at l5x8d0 l5x8d1
  have c5x9 := O5.cell 9 rfl
  have f5x9 := O5.free 9 rfl
  have l5x9 := O5.lt 9 rfl
  have l5x9d0 := le_up 0 l5x9
  have l5x9d1 := le_up 1 l5x9
  simp only [upN] at l5x9d0 l5x9d1
  have HO5 := Lib.hid O5
  clear O5 hb5
  go_wp2_with fail
  go_ret
  exact ⟨rfl, by go_grown⟩

end Go.Proofs.Ytjmplababaejaaa
