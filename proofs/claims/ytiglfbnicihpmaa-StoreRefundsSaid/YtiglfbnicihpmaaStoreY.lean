/- The law StoreRefunds where the list is as long as it must be. No condition. -/
import Derived.Test.YtiglfbnicihpmaaStoreYa
set_option linter.unusedVariables false
set_option linter.unusedSimpArgs false
set_option maxRecDepth 100000
namespace Go.Proofs.Ytiglfbnicihpmaa
open Go.RowKit

theorem kneB_self (a : Kn) : kneB a a = false := by simp [kneB]
theorem rf_ok {x0 : Vl} {xs : List Vl} {k : Nat} (h : okR x0 xs k = true) : rfE (gR x0 xs k) x0 (nowV x0 xs k) (atV xs k) = 0 ∧ rfK (gR x0 xs k) x0 (nowV x0 xs k) (atV xs k) = gR x0 xs (k + 1) := by
  unfold okR at h
  simp [rfE, rfK, h, gR]
theorem rf_no {x0 : Vl} {xs : List Vl} {k : Nat} (h : okR x0 xs k = false) : rfE (gR x0 xs k) x0 (nowV x0 xs k) (atV xs k) = 2 := by
  unfold okR at h
  simp [rfE, h]
theorem vl_at (xs : List Vl) (j : Nat) (hj : j < xs.length * 5) : (xs.flatMap Vl.cells)[j]? = (xs.getD (j / 5) ⟨0, 0, 0, 0, 0⟩).cells[j % 5]? := by
  induction xs generalizing j with
  | nil => simp at hj
  | cons x xs ih =>
    rw [List.flatMap_cons]
    have hl : x.cells.length = 5 := rfl
    rcases Nat.lt_or_ge j 5 with h | h
    · rw [List.getElem?_append_left (by omega), Nat.div_eq_of_lt h, Nat.mod_eq_of_lt h]
      rfl
    · rw [List.getElem?_append_right (by omega), hl, ih (j - 5) (by simp at hj; omega)]
      obtain ⟨i, rfl⟩ : ∃ i, j = i + 5 := ⟨j - 5, by omega⟩
      rw [Nat.add_sub_cancel, Nat.add_div_right _ (by decide), Nat.add_mod_right]
      rfl
theorem rowsV_inv {A : Option Addr} {zs : List Vl} {j : Nat} {r : RowI} (h : rowsV A zs j = some r) : (j = 0 ∧ r = rowV A zs [(1, 1)]) ∨ (j = 1 ∧ r = rowV (A.map (·.add 5)) zs.tail []) := by
  unfold rowsV at h
  split at h
  · cases h; exact .inl ⟨rfl, rfl⟩
  · cases h; exact .inr ⟨rfl, rfl⟩
  · cases h
theorem subOf_one {a j : Nat} (h : subOf a [(1, 1)] = some j) : a = 1 ∧ j = 1 := by
  unfold subOf subOf at h
  cases hb : Nat.beq a 1 <;> simp only [hb, cond_true, cond_false] at h
  · cases h
  · cases h; exact ⟨Nat.eq_of_beq_eq_true hb, rfl⟩
theorem rowsV_ok {A : Option Addr} {zs : List Vl} (hA : 0 < zs.length → ∃ b off, A = some ⟨b, off, none⟩) : RwOK (rowsV A zs) := by
  refine ⟨fun j r hj i _ => ?_, fun j r hj hn => ?_, fun j r hj a j' hs => ?_⟩
  · rcases rowsV_inv hj with ⟨_, rfl⟩ | ⟨_, rfl⟩ <;> exact vals_vA _
  · rcases rowsV_inv hj with ⟨_, rfl⟩ | ⟨_, rfl⟩
    · exact hA hn
    · have hn : 0 < zs.tail.length := hn
      obtain ⟨b, off, e⟩ := hA (by simp at hn; omega)
      exact ⟨b, off + 5, by rw [e]; rfl⟩
  · rcases rowsV_inv hj with ⟨_, rfl⟩ | ⟨_, rfl⟩
    · obtain ⟨rfl, rfl⟩ := subOf_one hs
      exact ⟨_, rfl, by simp [rowV], fun _ => rfl⟩
    · cases hs
theorem rowsV_rd {A : Option Addr} {zs : List Vl} {w : World} (hS : SlAt w A (zs.flatMap Vl.cells)) (h0 : 0 < zs.length) : (∃ b off, A = some ⟨b, off, none⟩) ∧ Rd (rowsV A zs) [] w := by
  rcases hS with h | ⟨b, off, rfl, hb, hc⟩
  · have := congrArg List.length h
    have h5 : (zs.flatMap Vl.cells).length = zs.length * 5 := by
      clear h this h0
      induction zs with
      | nil => rfl
      | cons x r ih => rw [List.flatMap_cons, List.length_append, ih]; simp [Vl.cells]; omega
    rw [h5] at this; simp at this; omega
  · have key : ∀ i q u, i < zs.length → (zs.getD i ⟨0, 0, 0, 0, 0⟩).cells[q]? = some u → w.cell? ⟨b, off + (i * 5 + q), none⟩ = some u := fun i q u hi hu => by
      have hq : q < 5 := (List.getElem?_eq_some_iff.1 hu).1
      apply hc
      rw [vl_at zs (i * 5 + q) (by omega), show (i * 5 + q) / 5 = i by omega, show (i * 5 + q) % 5 = q by omega]
      exact hu
    refine ⟨⟨b, off, rfl⟩, fun j r hj b' off' ha hn => ?_⟩
    rcases rowsV_inv hj with ⟨_, rfl⟩ | ⟨_, rfl⟩
    · cases ha
      exact ⟨by simp, hb, fun i hi q u hu => by have := key i q u hi hu; rwa [← Nat.add_assoc] at this⟩
    · have ha : some (⟨b, off + 5, none⟩ : Addr) = some ⟨b', off', none⟩ := ha
      cases ha
      refine ⟨by simp, hb, fun i hi q u hu => ?_⟩
      have hi : i < zs.tail.length := hi
      have e : zs.tail.getD i ⟨0, 0, 0, 0, 0⟩ = zs.getD (i + 1) ⟨0, 0, 0, 0, 0⟩ := by cases zs <;> rfl
      have hu : (zs.tail.getD i ⟨0, 0, 0, 0, 0⟩).cells[q]? = some u := hu
      rw [e] at hu
      have := key (i + 1) q u (by simp at hi; omega) hu
      rwa [show off + ((i + 1) * 5 + q) = off + 5 + i * 5 + q by omega] at this
theorem slAt_of {A : Option Addr} {zs : List Vl} {nb : List Nat} {w : World} (hA : ∃ b off, A = some ⟨b, off, none⟩) (hd : Rd (rowsV A zs) nb w) : SlAt w (A.map (·.add 5)) (zs.tail.flatMap Vl.cells) := by
  obtain ⟨b, off, rfl⟩ := hA
  rcases Nat.eq_zero_or_pos zs.tail.length with h0 | h0
  · rw [List.eq_nil_of_length_eq_zero h0]; exact .inl rfl
  · obtain ⟨h1, h2, h3⟩ := hd 1 _ rfl b (off + 5) rfl h0
    refine .inr ⟨b, off + 5, rfl, h2, fun j u hu => ?_⟩
    have h5 : (zs.tail.flatMap Vl.cells).length = zs.tail.length * 5 := by
      generalize zs.tail = ys
      induction ys with
      | nil => rfl
      | cons x r ih => rw [List.flatMap_cons, List.length_append, ih]; simp [Vl.cells]; omega
    have hj : j < zs.tail.length * 5 := by rw [← h5]; exact (List.getElem?_eq_some_iff.1 hu).1
    rw [vl_at _ j hj] at hu
    have := h3 (j / 5) (by show j / 5 < zs.tail.length; omega) (j % 5) u hu
    have e : off + 5 + j / 5 * (rowV (some ((⟨b, off, none⟩ : Addr).add 5)) zs.tail []).s + j % 5 = off + 5 + j := by show off + 5 + j / 5 * 5 + j % 5 = off + 5 + j; omega
    exact e ▸ this
theorem rel_rsl {R : Rws} {ρ : List Nat} {j n c : Nat} {V : Value} (h : Rel R ρ (.rsl j n c) V) : ∃ r, R j = some r ∧ n = r.n ∧ V = .slice r.A r.n c := by cases h; exact ⟨_, by assumption, rfl, rfl⟩
theorem seqR (Hr : List Block) (w : World) (g : Kn) (A : Option Addr) (x0 : Vl) (xs : List Vl) (c : Nat) (many : Int) {m : Nat} (hm : UptoR x0 xs m) (hc : xs.length + 1 ≤ c) (hn : xs.length ≤ 19) (hAx : ∃ b off, A = some ⟨b, off, none⟩) {ds : List Bool} {D : List Deferred} {live : List (Nat × AV)} {n : Nat} {wr : Nat → Bool} {ac : Act} {T : List ABlk} (hP : PatSt (rowsV A (x0 :: xs)) D live n ⟨hA g A (x0 :: xs) c many ++ T, ds, wr⟩ ac Hr) (hO : OwnK (rowsV A (x0 :: xs)) Hr w) (lb : List Value) (hlb : RelL (rowsV A (x0 :: xs)) (nums Hr) [.ptr 6 0, .ptr 7 0] lb) : Seq Try.prog 32 lb.toArray encR (zsR x0 xs m) (Sfz [6, 7] Hr w) w := by
  obtain ⟨rs, vs, _, _, hBl, hnd⟩ := hP
  obtain ⟨b1, n1, hb1⟩ := blk_of hBl hO.1 (l := 6) rfl (vals_vA x0)
  obtain ⟨b2, Cs, e1, e2⟩ := hBl.get (l := 7) (cs := [.rsl 1 (rowV (A.map (·.add 5)) xs []).n (c - 1)]) (t := 38) rfl
  have n2 := nums_get e1
  have hb2 : Blk w b2 Cs.toArray 38 := hO.1 _ (List.mem_of_getElem? e1)
  cases e2 with | cons e3 e4 =>
  cases e4
  obtain ⟨r, hj, _, rfl⟩ := rel_rsl e3
  have hr : r = rowV (A.map (·.add 5)) xs [] := (Option.some.inj hj).symm
  subst hr
  cases hlb with | cons h1 h2 => cases h2 with | cons h2 h3 =>
  cases h3
  obtain ⟨c1, m1, rfl⟩ := rel_ptr h1
  obtain ⟨c2, m2, rfl⟩ := rel_ptr h2
  obtain rfl := Option.some.inj (n1.symm.trans m1)
  obtain rfl := Option.some.inj (n2.symm.trans m2)
  refine total1_seq b1 b2 (A.map (·.add 5)) x0 xs (c - 1) m w (Sfz [6, 7] Hr w) (hb1.cell 0) (hb1.cell 1) (hb1.cell 2) (hb1.cell 3) (hb1.cell 4) (hb2.cell 0) (slAt_of hAx hO.2) (by omega) (by omega) (sfz_of hnd hO.1 n1 rfl) (sfz_of hnd hO.1 n2 rfl) (fun hne b' off ha => ?_) hm
  have h0 : 0 < xs.length := by cases xs; exact absurd rfl hne; simp
  obtain ⟨q1, q2, _⟩ := hO.2 1 _ rfl b' off ha h0
  exact ⟨q2, fun l hl => absurd (List.mem_of_getElem? hl) q1⟩
theorem wrap_k {k : Nat} (h : k ≤ 1000) : IntKind.i64.wrap ((k : Int) + 1) = ((k + 1 : Nat) : Int) := by rw [IntKind.wrap_i64]; omega
set_option maxHeartbeats 8000000 in
theorem refunds_long (A : Option Addr) (g : Kn) (x0 : Vl) (xs : List Vl) (c : Nat) (many : Int) (w : World) (hS : SlAt w A ((x0 :: xs).flatMap Vl.cells)) (hcap : xs.length + 1 ≤ c) (hn2 : 2 ≤ xs.length) (hn : xs.length ≤ 19) (hg : Tame g) (hU : U x0.l) :
    Calls Try.prog 4 #[.agg (kV g).toArray, .slice A (x0 :: xs).length c, .int .i64 many] w fun e w' => e = .returned (.bool true) ∧ Below w.heap.size w w' := by
  obtain ⟨m, hm⟩ := uptoR_has x0 xs
  obtain ⟨hAs, hRd⟩ := rowsV_rd hS (by simp)
  have hRw := rowsV_ok (A := A) (zs := x0 :: xs) fun _ => hAs
  have hE := hER hRw
  have hseq := fun Hr wx {ds} {D} {live} {n} {wr} {ac} {T} (hP : PatSt (rowsV A (x0 :: xs)) D live n ⟨hA g A (x0 :: xs) c many ++ T, ds, wr⟩ ac Hr) hO lb hlb => seqR Hr wx g A x0 xs c many hm hcap hn hAs hP hO lb hlb
  have hN : ((rowV A (x0 :: xs) [(1, 1)]).n : Int) = (xs.length : Int) + 1 := by show ((xs.length + 1 : Nat) : Int) = _; omega
  have hb : ∀ i : Int, 0 ≤ i → i ≤ xs.length → decide (0 ≤ i ∧ i < ((rowV A (x0 :: xs) [(1, 1)]).n : Int)) = true := fun i h1 h2 => by rw [hN]; simp; omega
  have ht := tameB_eq.2 hg
  have hu : uB x0.l = true := uB_eq.2 hU
  have hmx := hm.1
  refine ev_enter (E := ER (rowsV A (x0 :: xs))) (fn := Try.f4) (c := (Try.f4.body.getD .skip)) Try.func4 (by kernel_rfl) (args := [.agg (kA g), .rsl 0 (rowV A (x0 :: xs) [(1, 1)]).n c, .int .i64 false many]) (Args := [.agg (kV g).toArray, .slice A (x0 :: xs).length c, .int .i64 many]) (show 3 ≤ Try.f4.ntmps by decide) (.cons (.agg (RelL.of_vals (vals_kA g))) (.cons (.rsl rfl (by exact hcap)) (.cons .int .nil))) hRd (ds := [false, false, false, false]) (wr := allW) fun a0 hP hB => ?_
  refine ev_seqs hE 60 6 (st_a g A (x0 :: xs) c many (allE_cons (by rw [hN]; simp; omega) (allE_cons (by rw [hN]; simp; omega) (allE_cons (hb 0 (by omega) (by omega)) (allE_cons (hb 1 (by omega) (by omega)) (allE_cons (hb 2 (by omega) (by omega)) (allE_cons ht (allE_cons (hb 0 (by omega) (by omega)) (allE_cons (hb 1 (by omega) (by omega)) (allE_cons (hb 2 (by omega) (by omega)) (allE_cons ht (allE_cons hu (allE_cons (hb 0 (by omega) (by omega)) (allE_cons (decide_eq_true (show 1 < xs.length + 1 by omega)) (allE_cons (kneB_self _) (allE_cons (bne_self_eq_false _) allE_nil)))))))))))))))) hP hB fun a1 Hr1 w1 hP1 hB1 _ => ?_
  refine wp_parts (by kernel_rfl) ?_
  refine ev_seqs hE 60 1 (st_b g A (x0 :: xs) c many) hP1 hB1 fun a6 Hr6 w6 hP6 hB6 _ => ?_
  refine wp_bk (by kernel_rfl) (wp_lp 3 (by kernel_rfl) ?_)
  rw [rounds_succ]
  refine ev_seqs hE 60 1 (st_f0 g A (x0 :: xs) c many) hP6 hB6 fun a7 Hr7 w7 hP7 hB7 _ => ?_
  refine wp_parts (by kernel_rfl) (wp_bk (by kernel_rfl) ?_)
  refine ev_seqs hE 60 2 (st_g0 g A (x0 :: xs) c many (allE_cons (hb 0 (by omega) (by omega)) allE_nil)) hP7 hB7 fun a8 Hr8 w8 hP8 hB8 _ => ?_
  refine wp_parts (by kernel_rfl) ?_
  refine ev_seqs hE 60 1 (st_h0 g A (x0 :: xs) c many) hP8 hB8 fun a9 Hr9 w9 hP9 hB9 _ => ?_
  have hP9' := patSt_cells (l := 9) (cs' := kA ⟨0, 0, 0, 0⟩) (H := hA g A (x0 :: xs) c many ++ [([.int .i64 true 0], 3), ([.int .u64 true 0, .int .u64 true 0, .int .u64 true 0, .int .u64 true 0], 37), (vA x0, 27), ([.int .i64 true 0], 3)]) rfl rfl rfl hP9
  have hP9'' := patSt_cells (l := 11) (cs' := [.int .i64 false 0]) (H := hA g A (x0 :: xs) c many ++ [([.int .i64 true 0], 3), (kA ⟨0, 0, 0, 0⟩, 37), (vA x0, 27), ([.int .i64 true 0], 3)]) rfl rfl rfl hP9'
  have hat : ∀ (k : Nat) x, (zsR x0 xs m)[k]? = some x → k < m ∧ x = gR x0 xs (k + 1) := fun k x hx => by
    have h1 : k < m := by have := (List.getElem?_eq_some_iff.1 hx).1; rwa [zsR_len] at this
    rw [zsR_at h1] at hx
    exact ⟨h1, (Option.some.inj hx).symm⟩
  have hcond : ∀ k : Nat, k < m → ((k : Int) != (k : Int)) = false ∧ decide (IntKind.i64.wrap ((k : Int) + 1) ≥ ((rowV A (x0 :: xs) [(1, 1)]).n : Int)) = false ∧ decide (0 ≤ IntKind.i64.wrap ((k : Int) + 1) ∧ IntKind.i64.wrap ((k : Int) + 1) < ((rowV A (x0 :: xs) [(1, 1)]).n : Int)) = true ∧ tameB (gR x0 xs k) = true ∧ (rfE (gR x0 xs k) x0 (nowV x0 xs k) ((x0 :: xs).getD (IntKind.i64.wrap ((k : Int) + 1)).toNat ⟨0, 0, 0, 0, 0⟩) != 0) = false ∧ kneB (gR x0 xs (k + 1)) (rfK (gR x0 xs k) x0 (nowV x0 xs k) ((x0 :: xs).getD (IntKind.i64.wrap ((k : Int) + 1)).toNat ⟨0, 0, 0, 0, 0⟩)) = false := fun k hk => by
    obtain ⟨r1, r2⟩ := rf_ok (hm.2.1 k hk)
    rw [wrap_k (by omega), hN]
    have e : (x0 :: xs).getD (((k + 1 : Nat) : Int).toNat) ⟨0, 0, 0, 0, 0⟩ = atV xs k := by rw [Int.toNat_natCast]; rfl
    rw [e, r1, r2]
    exact ⟨bne_self_eq_false _, by simp; omega, by simp; omega, tameB_eq.2 (gR_tame hm k (by omega)), rfl, kneB_self _⟩
  have hnext : ∀ k : Nat, k < m → IntKind.i64.wrap ((k : Int) + 1) = ((k + 1 : Nat) : Int) ∧ ((x0 :: xs).getD (IntKind.i64.wrap ((k : Int) + 1)).toNat ⟨0, 0, 0, 0, 0⟩) = nowV x0 xs (k + 1) := fun k hk => by
    rw [wrap_k (by omega), Int.toNat_natCast]; exact ⟨rfl, rfl⟩
  refine ev_rangeAt hE 60 (m := ⟨hA g A (x0 :: xs) c many ++ [([.int .i64 true 0], 3), (kA (⟨0, 0, 0, 0⟩ : Kn), 37), (vA x0, 27), ([.int .i64 false 0], 3)], [], allW⟩) (live := [(3, .ptr 0 0), (4, .ptr 1 0), (5, .ptr 2 0), (6, .ptr 3 0), (11, .func (.func 32) [.ptr 6 0, .ptr 7 0]), (12, .ptr 8 0), (13, .ptr 9 0), (14, .ptr 10 0), (15, .ptr 11 0), (85, .func (.func 32) [.ptr 6 0, .ptr 7 0])]) (n := Try.f4.ntmps) (caps := [.ptr 6 0, .ptr 7 0]) (xs := zsR x0 xs m) (encs := encR) (by kernel_rfl) (fun _ => by kernel_rfl) (enters_of Try.func32 (by kernel_rfl) rfl) (by kernel_rfl) [6, 7] (hseq Hr9 w9 hP9'' hB9.own) (fun k x => [.int .i64 false (k : Nat), .agg (kA x)]) (fun k x _ => rfl) (fun _ _ => rfl) (fun k => hA g A (x0 :: xs) c many ++ [([.int .i64 true 0], 3), (kA (gR x0 xs k), 37), (vA (nowV x0 xs k), 27), ([.int .i64 false ((k : Nat) : Int)], 3)]) rfl (fun _ => rfl) (fun k => [false, false, false, false, decide (IntKind.i64.wrap ((k : Int) + 1) ≥ many)]) (fun k => decide (IntKind.i64.wrap ((k : Int) + 1) ≥ many))
    (fun k x r hx _ => ?_) hP9'' hB9 fun k a10 Hr10 w10 hEn hP10 hB10 _ => ?_
  · obtain ⟨hk, rfl⟩ := hat k x hx
    obtain ⟨q1, q2, q3, q4, q5, q6⟩ := hcond k hk
    obtain ⟨e1, e2⟩ := hnext k hk
    rcases hz : decide (IntKind.i64.wrap ((k : Int) + 1) ≥ many) with _ | _
    · have := st_r0f g A (x0 :: xs) c many (gR x0 xs k) (nowV x0 xs k) (k : Int) (gR x0 xs (k + 1)) (allE_cons q1 (allE_cons q2 (allE_cons (hb 0 (by omega) (by omega)) (allE_cons q3 (allE_cons q4 (allE_cons hu (allE_cons q5 (allE_cons q6 (allE_cons q3 (allE_cons hz allE_nil)))))))))) r
      rw [e2, e1] at this
      exact this
    · have := st_r0t g A (x0 :: xs) c many (gR x0 xs k) (nowV x0 xs k) (k : Int) (gR x0 xs (k + 1)) (allE_cons q1 (allE_cons q2 (allE_cons (hb 0 (by omega) (by omega)) (allE_cons q3 (allE_cons q4 (allE_cons hu (allE_cons q5 (allE_cons q6 (allE_cons q3 (allE_cons hz allE_nil)))))))))) r
      rw [e2, e1] at this
      exact this
  refine ev_codeE hE 60 .normal (st_i0 g A (x0 :: xs) c many (gR x0 xs k) (nowV x0 xs k) (k : Int)) hP10 hB10 fun a11 Hr11 w11 hP11 hB11 _ => ?_
  refine ev_codeE hE 60 .normal (st_j0 g A (x0 :: xs) c many (gR x0 xs k) (nowV x0 xs k) (k : Int)) hP11 hB11 fun a12 Hr12 w12 hP12 hB12 _ => ?_
  generalize gR x0 xs k = gn at *
  generalize nowV x0 xs k = nn at *
  generalize ((k : Nat) : Int) = vn at *
  refine ev_seqs hE 60 1 (st_f1 g A (x0 :: xs) c many gn nn vn) hP12 hB12 fun a13 Hr13 w13 hP13 hB13 _ => ?_
  refine wp_parts (by kernel_rfl) (wp_bk (by kernel_rfl) ?_)
  refine ev_seqs hE 60 2 (st_g1 g A (x0 :: xs) c many gn nn vn (allE_cons (hb 0 (by omega) (by omega)) allE_nil)) hP13 hB13 fun a14 Hr14 w14 hP14 hB14 _ => ?_
  refine wp_parts (by kernel_rfl) ?_
  refine ev_seqs hE 60 1 (st_h1 g A (x0 :: xs) c many gn nn vn) hP14 hB14 fun a15 Hr15 w15 hP15 hB15 _ => ?_
  have hP15' := patSt_cells (l := 13) (cs' := kA ⟨0, 0, 0, 0⟩) (H := hA g A (x0 :: xs) c many ++ [([.int .i64 true 0], 3), (kA gn, 37), (vA nn, 27), ([.int .i64 false vn], 3), ([.int .i64 true 1], 3), ([.int .u64 true 0, .int .u64 true 0, .int .u64 true 0, .int .u64 true 0], 37), (vA x0, 27), ([.int .i64 true 0], 3)]) rfl rfl rfl hP15
  have hP15'' := patSt_cells (l := 15) (cs' := [.int .i64 false 0]) (H := hA g A (x0 :: xs) c many ++ [([.int .i64 true 0], 3), (kA gn, 37), (vA nn, 27), ([.int .i64 false vn], 3), ([.int .i64 true 1], 3), (kA ⟨0, 0, 0, 0⟩, 37), (vA x0, 27), ([.int .i64 true 0], 3)]) rfl rfl rfl hP15'
  refine ev_rangeAt hE 60 (m := ⟨hA g A (x0 :: xs) c many ++ [([.int .i64 true 0], 3), (kA gn, 37), (vA nn, 27), ([.int .i64 false vn], 3), ([.int .i64 true 1], 3), (kA (⟨0, 0, 0, 0⟩ : Kn), 37), (vA x0, 27), ([.int .i64 false 0], 3)], [], allW⟩) (live := [(3, .ptr 0 0), (4, .ptr 1 0), (5, .ptr 2 0), (6, .ptr 3 0), (11, .func (.func 32) [.ptr 6 0, .ptr 7 0]), (12, .ptr 12 0), (13, .ptr 13 0), (14, .ptr 14 0), (15, .ptr 15 0), (85, .func (.func 32) [.ptr 6 0, .ptr 7 0])]) (n := Try.f4.ntmps) (caps := [.ptr 6 0, .ptr 7 0]) (xs := zsR x0 xs m) (encs := encR) (by kernel_rfl) (fun _ => by kernel_rfl) (enters_of Try.func32 (by kernel_rfl) rfl) (by kernel_rfl) [6, 7] (hseq Hr15 w15 hP15'' hB15.own) (fun k x => [.int .i64 false (k : Nat), .agg (kA x)]) (fun k x _ => rfl) (fun _ _ => rfl) (fun k => hA g A (x0 :: xs) c many ++ [([.int .i64 true 0], 3), (kA gn, 37), (vA nn, 27), ([.int .i64 false vn], 3), ([.int .i64 true 1], 3), (kA (gR x0 xs k), 37), (vA (nowV x0 xs k), 27), ([.int .i64 false ((k : Nat) : Int)], 3)]) rfl (fun _ => rfl) (fun k => [false, false, false, false]) (fun k => false)
    (fun k x r hx _ => ?_) hP15'' hB15 fun k a16 Hr16 w16 hEn2 hP16 hB16 _ => ?_
  · obtain ⟨hk, rfl⟩ := hat k x hx
    obtain ⟨q1, q2, q3, q4, q5, q6⟩ := hcond k hk
    obtain ⟨e1, e2⟩ := hnext k hk
    have := st_r1 g A (x0 :: xs) c many gn nn vn (gR x0 xs k) (nowV x0 xs k) (k : Int) (gR x0 xs (k + 1)) (allE_cons q1 (allE_cons q2 (allE_cons (hb 0 (by omega) (by omega)) (allE_cons q3 (allE_cons q4 (allE_cons hu (allE_cons q5 (allE_cons q6 (allE_cons q3 allE_nil))))))))) r
    rw [e2, e1] at this
    exact this
  have hkm : k = m := by
    rcases hEn2 with ⟨h1, _⟩ | ⟨_, _, h3, _⟩
    · rw [h1, zsR_len]
    · cases h3
  subst hkm
  rcases Nat.lt_or_ge k xs.length with hlt | hge
  · have hno := rf_no (hm.2.2 hlt)
    have e1 : IntKind.i64.wrap ((k : Int) + 1) = ((k + 1 : Nat) : Int) := wrap_k (by omega)
    have e : (x0 :: xs).getD ((IntKind.i64.wrap ((k : Int) + 1)).toNat) ⟨0, 0, 0, 0, 0⟩ = atV xs k := by rw [e1, Int.toNat_natCast]; rfl
    refine ev_codeE hE 60 .normal (st_i1t g A (x0 :: xs) c many gn nn vn (gR x0 xs k) (nowV x0 xs k) (k : Int) (allE_cons (by rw [e1, hN]; simp; omega) (allE_cons (hb 0 (by omega) (by omega)) (allE_cons (hb _ (by rw [e1]; omega) (by rw [e1]; omega)) (allE_cons (tameB_eq.2 (gR_tame hm k (Nat.le_refl _))) (allE_cons hu (allE_cons (by rw [e]; show (rfE (gR x0 xs k) x0 (nowV x0 xs k) (atV xs k) == 0) = false; rw [hno]; rfl) allE_nil))))))) hP16 hB16 fun a17 Hr17 w17 hP17 hB17 _ => ?_
    refine ev_codeE hE 60 .normal (st_j1t g A (x0 :: xs) c many gn nn vn (gR x0 xs k) (nowV x0 xs k) (k : Int) _) hP17 hB17 fun a18 Hr18 w18 hP18 hB18 _ => ?_
    refine ev_codeE hE 60 (.exit 0) (st_kt g A (x0 :: xs) c many gn nn vn (gR x0 xs k) (nowV x0 xs k) (k : Int) _) hP18 hB18 fun a19 Hr19 w19 hP19 hB19 _ => ?_
    exact ev_rest hE 60 (st_zt g A (x0 :: xs) c many gn nn vn (gR x0 xs k) (nowV x0 xs k) (k : Int) _) rfl (fun i r h h0 => by rcases rowsV_inv h with ⟨_, rfl⟩ | ⟨_, rfl⟩ <;> (show 0 < 5; decide)) hP19 hB19
  · have e1 : IntKind.i64.wrap ((k : Int) + 1) = ((k + 1 : Nat) : Int) := wrap_k (by omega)
    refine ev_codeE hE 60 .normal (st_i1f g A (x0 :: xs) c many gn nn vn (gR x0 xs k) (nowV x0 xs k) (k : Int) (allE_cons (by rw [e1, hN]; simp; omega) allE_nil)) hP16 hB16 fun a17 Hr17 w17 hP17 hB17 _ => ?_
    refine ev_codeE hE 60 .normal (st_j1f g A (x0 :: xs) c many gn nn vn (gR x0 xs k) (nowV x0 xs k) (k : Int)) hP17 hB17 fun a18 Hr18 w18 hP18 hB18 _ => ?_
    refine ev_codeE hE 60 (.exit 0) (st_kf g A (x0 :: xs) c many gn nn vn (gR x0 xs k) (nowV x0 xs k) (k : Int)) hP18 hB18 fun a19 Hr19 w19 hP19 hB19 _ => ?_
    exact ev_rest hE 60 (st_zf g A (x0 :: xs) c many gn nn vn (gR x0 xs k) (nowV x0 xs k) (k : Int)) rfl (fun i r h h0 => by rcases rowsV_inv h with ⟨_, rfl⟩ | ⟨_, rfl⟩ <;> (show 0 < 5; decide)) hP19 hB19
end Go.Proofs.Ytiglfbnicihpmaa
