/- Walks: the law PriceKinds. -/
import Derived.Test.YtclgoamhbakdlaaPriceW
set_option linter.unusedVariables false
set_option linter.unusedSimpArgs false
namespace Go.Proofs.Ytclgoamhbakdlaa
open Go.RowKit

set_option maxHeartbeats 4000000 in
set_option maxRecDepth 100000 in
theorem kinds_s (k n : Int) (A : Option Addr) (m cap : Nat) (w : World) (h : 300 < m) :
    Calls Try.prog 4 #[.int .i64 k, .int .i64 n, .slice A m cap] w fun e w' => e = .returned (.bool true) ∧ Below w.heap.size w w' := by
  have d1 : decide ((300 : Int) < m) = true := by simp <;> omega
  go_enter Try.func4, Try.ntmps4
  go_wp2_with fail
  refine (works_any _).mono ?_
  rintro e w1 ⟨rfl, hb1⟩
  have O1 := Own.grow' hb1 (Own.nil w)
  try simp only [List.setIfInBounds_toArray, List.set_cons_zero, List.set_cons_succ] at O1
  have bw1 : Below w.heap.size w w1 := Below.trans (by go_grown) (Below.mono hb1 (by first | omega | (simp; done) | (simp; omega)))
  have zw1 := Below.size hb1
  try simp only [World.size_alloc, World.size_drew, World.size_setCell] at zw1
  have HO1 := Lib.hid O1
  clear O1 hb1
  go_wp2_with fail
  go_ret
  exact ⟨rfl, by go_grown⟩

/-- Where a slice's end begins. -/
def cutA (A : Option Addr) (h cap : Nat) : Option Addr := if cap = h then A else A.map (·.add h)
theorem cut_run (A : Option Addr) (m cap h : Nat) (x : Int) (hx : x = h) (hm : h ≤ m) (hcap : m ≤ cap) (V : World) :
    (Instr.sliceAt 33 (.slice A m cap) (some (.int .i64 x)) none none).run Try.prog V = .ok (.slice (cutA A h cap) (m - h) (cap - h)) V := by
  have hu : Try.prog.underlying 33 = some (.slice (Try.prog.elem 33)) := by kernel_rfl
  have hz : (sizeOf (Try.prog.elem 33)).run Try.prog V = .ok 1 V := by kernel_rfl
  subst hx
  rw [run_sliceAt_slice V _ _ _ _ _ hu, run_slice_l V _ A m cap hu .i64 h (by omega) (by omega), hz]
  simp [sliced, cutA, Result.andThen]
theorem catP_one (p : Prt) : catP [p] = p.xs := by simp [catP]
theorem catP_two (p q : Prt) : catP [p, q] = p.xs ++ q.xs := by simp [catP]
theorem data_one (A : Option Addr) (xs : List Int) (cap b : Nat) (t : TypeId) (w : World) (hS : SlAt w A (bytesC xs)) (hb : Blk w b #[.slice A xs.length cap] t) (hcap : xs.length ≤ cap) (hnil : A = none → xs = [] ∧ cap = 0) (hn : xs.length ≤ 100000) :
    Calls Try.prog 16 #[.slice (some ⟨b, 0, none⟩) 1 1] w fun e w' => e = .returned (.int .u64 (costB xs)) ∧ Below w.heap.size w w' := by
  have := data_any (some ⟨b, 0, none⟩) [⟨A, xs, cap⟩] 1 w (SlAt.of_blk hb) (fun p hp => by simp at hp; subst hp; exact ⟨hS, hcap, hnil⟩) (by simp) (by simp) (by simpa [lenP] using hn)
  rwa [catP_one] at this
theorem SlAt.cut {w : World} {A : Option Addr} {cs : List Value} (h : SlAt w A cs) (k cap : Nat) (hk : k ≤ cap) (hl : cs.length ≤ cap) : SlAt w (cutA A k cap) (cs.drop k) := by
  unfold cutA
  split
  · exact .inl (List.drop_eq_nil_of_le (by omega))
  · rcases h with h | ⟨b, off, rfl, hb, hc⟩
    · exact .inl (by rw [h]; simp)
    · refine .inr ⟨b, off + k, by simp [Addr.add_lit], hb, fun j u hu => ?_⟩
      rw [List.getElem?_drop] at hu
      rw [Nat.add_assoc]; exact hc _ u hu
theorem data_two (A : Option Addr) (xs : List Int) (cap b : Nat) (t : TypeId) (w : World) (hS : SlAt w A (bytesC xs)) (hb : Blk w b #[.slice A (xs.length / 2) cap, .slice (cutA A (xs.length / 2) cap) (xs.length - xs.length / 2) (cap - xs.length / 2)] t)
    (hcap : xs.length ≤ cap) (hnil : A = none → xs = [] ∧ cap = 0) (hn : xs.length ≤ 100000) :
    Calls Try.prog 16 #[.slice (some ⟨b, 0, none⟩) 2 2] w fun e w' => e = .returned (.int .u64 (costB xs)) ∧ Below w.heap.size w w' := by
  have l1 : (xs.take (xs.length / 2)).length = xs.length / 2 := by simp; omega
  have l2 : (xs.drop (xs.length / 2)).length = xs.length - xs.length / 2 := by simp
  have h := data_any (some ⟨b, 0, none⟩) [⟨A, xs.take (xs.length / 2), cap⟩, ⟨cutA A (xs.length / 2) cap, xs.drop (xs.length / 2), cap - xs.length / 2⟩] 2 w
    (by have := SlAt.of_blk hb; simp only [List.map_cons, List.map_nil, Prt.v, l1, l2]; exact this)
    (fun p hp => by
      simp only [List.mem_cons, List.not_mem_nil, or_false] at hp
      rcases hp with rfl | rfl
      · refine ⟨?_, by simp only [l1]; omega, fun h => by obtain ⟨h1, h2⟩ := hnil h; exact ⟨by simp [h1], h2⟩⟩
        rcases hS with h | ⟨b', off, hA, hb', hc⟩
        · have : xs = [] := by simpa [bytesC] using h
          exact .inl (by simp [this, bytesC])
        · exact .inr ⟨b', off, hA, hb', fun j u hu => hc j u (by
            simp only [bytesC, List.map_take, List.getElem?_take] at hu
            split at hu
            · exact hu
            · cases hu)⟩
      · refine ⟨?_, by simp only [l2]; omega, fun h => ?_⟩
        · have := hS.cut (xs.length / 2) cap (by omega) (by rw [bytesC_len]; exact hcap)
          have e : bytesC (xs.drop (xs.length / 2)) = (bytesC xs).drop (xs.length / 2) := by simp [bytesC, List.map_drop]
          rw [e]; exact this
        · have hA : A = none := by
            unfold cutA at h
            split at h
            · exact h
            · simpa using h
          obtain ⟨h1, h2⟩ := hnil hA
          exact ⟨by simp [h1], by simp only; omega⟩)
    (by simp) (by simp) (by simp only [lenP, List.map_cons, List.map_nil, l1, l2, List.sum_cons, List.sum_nil]; omega)
  rwa [catP_two, show ([⟨A, xs.take (xs.length / 2), cap⟩, ⟨cutA A (xs.length / 2) cap, xs.drop (xs.length / 2), cap - xs.length / 2⟩] : List Prt).length = 2 from rfl, show xs.take (xs.length / 2) ++ xs.drop (xs.length / 2) = xs from List.take_append_drop _ _] at h

set_option maxHeartbeats 4000000 in
set_option maxRecDepth 100000 in
theorem kinds_g (k n : Int) (A : Option Addr) (xs : List Int) (cap : Nat) (w : World) (hS : SlAt w A (bytesC xs)) (hcap : xs.length ≤ cap) (hnil : A = none → xs = [] ∧ cap = 0) (hn : xs.length ≤ 300) :
    Calls Try.prog 4 #[.int .i64 k, .int .i64 n, .slice A xs.length cap] w fun e w' => e = .returned (.bool true) ∧ Below w.heap.size w w' := by
  have HX := Lib.hid (fun (W : World) (hb : Below w.heap.size w W) => hS.below rfl hb)
  have HF := Lib.hid (fun (W : World) (hW : SlAt W A (bytesC xs)) => refData_any A xs cap W hW hcap (by omega))
  have HD1 := Lib.hid (fun (b : Nat) (t : TypeId) (W : World) (hW : SlAt W A (bytesC xs)) (hb : Blk W b #[.slice A xs.length cap] t) => data_one A xs cap b t W hW hb hcap hnil (by omega))
  have HD2 := Lib.hid (fun (b : Nat) (t : TypeId) (W : World) (hW : SlAt W A (bytesC xs)) (hb : Blk W b #[.slice A (xs.length / 2) cap, .slice (cutA A (xs.length / 2) cap) (xs.length - xs.length / 2) (cap - xs.length / 2)] t) => data_two A xs cap b t W hW hb hcap hnil (by omega))
  have HO := Lib.hid (fun V : World => of_any k n V)
  have HR := Lib.hid (fun V : World => refOf_any k n V)
  generalize (if inK k && okI n then priceI k n else 0) = P at HO HR
  generalize (if inK k && okI n then (0 : Int) else 2) = E at HO HR
  generalize costB xs = C at HD1 HD2 HF
  clear hS hnil
  generalize xs.length = m at *
  have d1 : decide ((300 : Int) < m) = false := by simp <;> omega
  have hm2 : m / 2 ≤ m := by omega
  have hcut := cut_run A m cap (m / 2) ((m : Int) / 2) (by omega) hm2 hcap
  go_enter Try.func4, Try.ntmps4
  go_wp2_with fail
  refine (HO.out _).mono ?_
  rintro e w1 ⟨rfl, hb1⟩
  have O1 := Own.grow' hb1 (Own.nil w)
  try simp only [List.setIfInBounds_toArray, List.set_cons_zero, List.set_cons_succ] at O1
  have bw1 : Below w.heap.size w w1 := Below.trans (by go_grown) (Below.mono hb1 (by first | omega | (simp; done) | (simp; omega)))
  have zw1 := Below.size hb1
  try simp only [World.size_alloc, World.size_drew, World.size_setCell] at zw1
  have HO1 := Lib.hid O1
  clear O1 hb1
  go_wp2_with fail
  refine (HR.out _).mono ?_
  rintro e w' ⟨rfl, rfl⟩
  go_wp2_with fail
  refine wp_region_grow w.heap.size 33 0 16779264 [(0, 0, 2147483648, 128), (1, 0, 4294967296, 512), (2, 3, 8589934592, 6442450944), (3, 4, 17179869184, 8589934592), (4, 8, 34359738368, 17179869440), (5, 24, 68719476736, 51539607552), (6, 8, 137438953472, 17179870208), (7, 104, 274877906944, 223338299392), (8, 136, 549755813888, 292057776128), (9, 288, 1099511627776, 549755813888), (10, 512, 2199023255552, 1099511627780), (11, 1536, 4398046511104, 3298534883328), (12, 2560, 8796093022208, 5497558138880), (13, 512, 17592186044416, 1099511627780), (14, 12800, 35184372088832, 18691697672192), (15, 20992, 70368744177664, 45079976738816), (16, 33280, 140737488355328, 71468255805440), (17, 81920, 281474976710656, 140737488355328), (18, 131072, 562949953421312, 281474976710660), (19, 131072, 1125899906842624, 281474976712704), (20, 917504, 2251799813685248, 1970324836974592), (21, 131072, 4503599627370496, 281474976710660), (22, 131072, 9007199254740992, 281474976712704), (23, 6422528, 18014398509481984, 13792273858822144), (24, 9568256, 36028797018963968, 20547673299877888), (25, 16908288, 72057594037927936, 36310271995674624), (26, 131072, 144115188075855872, 281474976710660), (27, 100794368, 288230376151711744, 144396663052566528), (28, 167903232, 576460752303423488, 360569445166350336), (29, 268566528, 1152921504606846976, 576742227280134144), (30, 671088640, 2305843009213693952, 1152921504606846976), (31, 1073741824, 4611686018427387904, 2305843009213693952), (32, 3221225472, 9223372036854775808, 6917529027641081856), (33, 8589934591, 64, 9223372036854775808)] [(.p 0, 1), (.p 1, 3), (.p 2, 7), (.p 3, 15), (.p 4, 31), (.p 5, 63), (.p 6, 127), (.p 7, 255), (.p 8, 511), (.p 9, 1023), (.p 10, 2047), (.p 13, 10239), (.g 11, 12287), (.q 12, 16383), (.p 14, 32767), (.p 15, 65535), (.p 16, 131071), (.p 17, 262143), (.p 18, 524287), (.p 19, 1048575), (.p 20, 2097151), (.p 21, 4194303), (.p 22, 8388607), (.p 23, 16777215), (.p 26, 83886079), (.g 24, 100663295), (.q 25, 134217727), (.p 27, 268435455), (.p 28, 536870911), (.p 29, 1073741823), (.p 30, 2147483647), (.p 31, 4294967295), (.p 32, 8589934591)] [(33, 17179869183)] _ (fun p hp => hp) (by first | omega | (simp; done) | (simp; omega)) (by kernel_rfl) (by kernel_rfl) HO1.out ?_
  refine wpG_move (i := 0) rfl rfl rfl (by rfl) rfl ?_
  simp only [List.set_cons_zero, List.set_cons_succ]
  refine wpG_move (i := 1) rfl rfl rfl (by rfl) rfl ?_
  simp only [List.set_cons_zero, List.set_cons_succ]
  refine wpG_pure (i := 2) (v := ?v2x2) rfl rfl (by rfl) (fun w hB hG K hK => ?h2x2) ?_
  case h2x2 =>
    go_wp2_with fail
    exact hK _ (Below.refl _ _)
  simp only [List.set_cons_zero, List.set_cons_succ]
  refine wpG_move (i := 3) rfl rfl rfl (by rfl) rfl ?_
  simp only [List.set_cons_zero, List.set_cons_succ]
  refine wpG_move (i := 4) rfl rfl rfl (by rfl) rfl ?_
  simp only [List.set_cons_zero, List.set_cons_succ]
  refine wpG_pure (i := 5) (v := ?v2x5) rfl rfl (by rfl) (fun w hB hG K hK => ?h2x5) ?_
  case h2x5 =>
    go_wp2_with fail
    refine (num_any _ _).mono ?_
    rintro e wx ⟨rfl, rfl⟩
    exact hK _ (Below.refl _ _)
  simp only [List.set_cons_zero, List.set_cons_succ]
  refine wpG_move (i := 6) rfl rfl rfl (by rfl) rfl ?_
  simp only [List.set_cons_zero, List.set_cons_succ]
  refine wpG_pure (i := 7) (v := ?v2x7) rfl rfl (by rfl) (fun w hB hG K hK => ?h2x7) ?_
  case h2x7 =>
    go_wp2_with fail
    exact hK _ (Below.refl _ _)
  simp only [List.set_cons_zero, List.set_cons_succ]
  refine wpG_pure (i := 8) (v := ?v2x8) rfl rfl (by rfl) (fun w hB hG K hK => ?h2x8) ?_
  case h2x8 =>
    go_wp2_with fail
    exact hK _ (Below.refl _ _)
  simp only [List.set_cons_zero, List.set_cons_succ]
  refine wpG_move (i := 9) rfl rfl rfl (by rfl) rfl ?_
  simp only [List.set_cons_zero, List.set_cons_succ]
  refine wpG_move (i := 10) rfl rfl rfl (by rfl) rfl ?_
  simp only [List.set_cons_zero, List.set_cons_succ]
  refine wpG_move (i := 13) rfl rfl rfl (by rfl) rfl ?_
  simp only [List.set_cons_zero, List.set_cons_succ]
  refine wpG_make (i := 11) (c := ?c2x11) (t := ?t2x11) (fun b => .slice (some ⟨b, 0, none⟩) 1 1) rfl rfl (by rfl) (fun w hB hG K hK => ?h2x11) (fun v2g1 l2g1 n2g1 => ?_)
  case h2x11 =>
    go_wp2_with fail
    exact hK
  simp only [List.set_cons_zero, List.set_cons_succ]
  try simp only [World.size_alloc, World.size_drew, World.size_setCell] at l2g1
  clear n2g1
  refine wpG_op (i := 12) (v := ?v2x12) rfl rfl (by rfl) (fun w hB hG K hK => ?h2x12) ?_
  case h2x12 =>
    go_wp2_with fail
    refine (HD1.out _ _ _ (HX.out _ (Below.trans (by go_grown) hB)) (hG.get 0 rfl)).mono ?_
    rintro e wx ⟨rfl, hbx⟩
    exact hK _ hbx
  simp only [List.set_cons_zero, List.set_cons_succ]
  refine wpG_pure (i := 14) (v := ?v2x14) rfl rfl (by rfl) (fun w hB hG K hK => ?h2x14) ?_
  case h2x14 =>
    go_wp2_with fail
    refine (HF.out _ (HX.out _ (Below.trans (by go_grown) hB))).mono ?_
    rintro e wx ⟨rfl, rfl⟩
    exact hK _ (Below.refl _ _)
  simp only [List.set_cons_zero, List.set_cons_succ]
  refine wpG_pure (i := 15) (v := ?v2x15) rfl rfl (by rfl) (fun w hB hG K hK => ?h2x15) ?_
  case h2x15 =>
    go_wp2_with fail
    exact hK _ (Below.refl _ _)
  simp only [List.set_cons_zero, List.set_cons_succ]
  refine wpG_pure (i := 16) (v := ?v2x16) rfl rfl (by rfl) (fun w hB hG K hK => ?h2x16) ?_
  case h2x16 =>
    go_wp2_with fail
    exact hK _ (Below.refl _ _)
  simp only [List.set_cons_zero, List.set_cons_succ]
  refine wpG_move (i := 17) rfl rfl rfl (by rfl) rfl ?_
  simp only [List.set_cons_zero, List.set_cons_succ]
  refine wpG_move (i := 18) rfl rfl rfl (by rfl) rfl ?_
  simp only [List.set_cons_zero, List.set_cons_succ]
  refine wpG_move (i := 19) rfl rfl rfl (by rfl) rfl ?_
  simp only [List.set_cons_zero, List.set_cons_succ]
  refine wpG_pure (i := 20) (v := ?v2x20) rfl rfl (by rfl) (fun w hB hG K hK => ?h2x20) ?_
  case h2x20 =>
    go_wp2_with fail
    exact hK _ (Below.refl _ _)
  simp only [List.set_cons_zero, List.set_cons_succ]
  refine wpG_move (i := 21) rfl rfl rfl (by rfl) rfl ?_
  simp only [List.set_cons_zero, List.set_cons_succ]
  refine wpG_move (i := 22) rfl rfl rfl (by rfl) rfl ?_
  simp only [List.set_cons_zero, List.set_cons_succ]
  refine wpG_pure (i := 23) (v := ?v2x23) rfl rfl (by rfl) (fun w hB hG K hK => ?h2x23) ?_
  case h2x23 =>
    go_wp2_with fail
    exact hK _ (Below.refl _ _)
  simp only [List.set_cons_zero, List.set_cons_succ]
  refine wpG_move (i := 26) rfl rfl rfl (by rfl) rfl ?_
  simp only [List.set_cons_zero, List.set_cons_succ]
  refine wpG_make (i := 24) (c := ?c2x24) (t := ?t2x24) (fun b => .slice (some ⟨b, 0, none⟩) 2 2) rfl rfl (by rfl) (fun w hB hG K hK => ?h2x24) (fun v2g2 l2g2 n2g2 => ?_)
  case h2x24 =>
    go_wp2_with fail
    exact hK
  simp only [List.set_cons_zero, List.set_cons_succ]
  try simp only [World.size_alloc, World.size_drew, World.size_setCell] at l2g2
  have n2g2x0 := n2g2.1
  clear n2g2
  refine wpG_op (i := 25) (v := ?v2x25) rfl rfl (by rfl) (fun w hB hG K hK => ?h2x25) ?_
  case h2x25 =>
    go_wp2_with fail
    refine (HD2.out _ _ _ (HX.out _ (Below.trans (by go_grown) hB)) (hG.get 0 rfl)).mono ?_
    rintro e wx ⟨rfl, hbx⟩
    exact hK _ hbx
  simp only [List.set_cons_zero, List.set_cons_succ]
  refine wpG_pure (i := 27) (v := ?v2x27) rfl rfl (by rfl) (fun w hB hG K hK => ?h2x27) ?_
  case h2x27 =>
    go_wp2_with fail
    refine (HF.out _ (HX.out _ (Below.trans (by go_grown) hB))).mono ?_
    rintro e wx ⟨rfl, rfl⟩
    exact hK _ (Below.refl _ _)
  simp only [List.set_cons_zero, List.set_cons_succ]
  refine wpG_pure (i := 28) (v := ?v2x28) rfl rfl (by rfl) (fun w hB hG K hK => ?h2x28) ?_
  case h2x28 =>
    go_wp2_with fail
    exact hK _ (Below.refl _ _)
  simp only [List.set_cons_zero, List.set_cons_succ]
  refine wpG_pure (i := 29) (v := ?v2x29) rfl rfl (by rfl) (fun w hB hG K hK => ?h2x29) ?_
  case h2x29 =>
    go_wp2_with fail
    exact hK _ (Below.refl _ _)
  simp only [List.set_cons_zero, List.set_cons_succ]
  refine wpG_move (i := 30) rfl rfl rfl (by rfl) rfl ?_
  simp only [List.set_cons_zero, List.set_cons_succ]
  refine wpG_pure (i := 31) (v := ?v2x31) rfl rfl (by rfl) (fun w hB hG K hK => ?h2x31) ?_
  case h2x31 =>
    go_wp2_with fail
    refine (works_any _).mono ?_
    rintro e wx ⟨rfl, hbx⟩
    exact hK _ hbx
  simp only [List.set_cons_zero, List.set_cons_succ]
  refine wpG_pure (i := 32) (v := ?v2x32) rfl rfl (by rfl) (fun w hB hG K hK => ?h2x32) ?_
  case h2x32 =>
    go_wp2_with fail
    exact hK _ (Below.refl _ _)
  simp only [List.set_cons_zero, List.set_cons_succ]
  refine wpG_nil (fun w2 hb2 hG2 => ?_)
  simp only [List.append_eq, List.cons_append, List.nil_append, List.drop_succ_cons, List.drop_zero, List.drop_nil]
  have u2g1 := Own.lt hG2 1 rfl
  have u2g2 := Own.lt hG2 0 rfl
  have O2 := Own.of hG2
  try simp only [List.setIfInBounds_toArray, List.set_cons_zero, List.set_cons_succ] at O2
  have bw2 : Below w.heap.size w w2 := Below.trans (by go_grown) (Below.mono hb2 (by first | omega | (simp; done) | (simp; omega)))
  have zw2 := Below.size hb2
  try simp only [World.size_alloc, World.size_drew, World.size_setCell] at zw2
  have c2x0 := Own.cell O2 0 rfl
  have f2x0 := Own.free O2 0 rfl
  have l2x0 := Own.lt O2 0 rfl
  have l2x0d0 := le_up 0 l2x0
  have l2x0d1 := le_up 1 l2x0
  simp only [upN] at l2x0d0 l2x0d1
  have c2x1 := Own.cell O2 1 rfl
  have f2x1 := Own.free O2 1 rfl
  have l2x1 := Own.lt O2 1 rfl
  have l2x1d0 := le_up 0 l2x1
  have l2x1d1 := le_up 1 l2x1
  simp only [upN] at l2x1d0 l2x1d1
  have HO2 := Lib.hid O2
  clear O2 hb2
  go_wp2_with fail
  go_ret
  exact ⟨rfl, by go_grown⟩
end Go.Proofs.Ytclgoamhbakdlaa
