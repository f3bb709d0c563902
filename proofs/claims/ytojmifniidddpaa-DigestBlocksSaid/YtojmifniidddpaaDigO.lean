/- The digest of bytes. -/
import Derived.Test.YtojmifniidddpaaDigN
import Derived.Test.YtojmifniidddpaaDRb
import Derived.Laws.EntriesVeiled
set_option linter.unusedVariables false
set_option linter.unusedSimpArgs false
namespace Go.Proofs.Ytojmifniidddpaa
open Go.RowKit

attribute [local go_sem] Oper.semAt_some
/-- Numbers laid on a state, one by one. -/
def xorK (s : List (BitVec 64)) (x : Nat → Nat) : Nat → List (BitVec 64)
  | 0 => s
  | j + 1 => (xorK s x j).set j (nth (xorK s x j) j ^^^ BitVec.ofNat 64 (x j))
theorem xorK_len (s : List (BitVec 64)) (x : Nat → Nat) : ∀ j, (xorK s x j).length = s.length
  | 0 => rfl
  | j + 1 => by unfold xorK; rw [List.length_set]; exact xorK_len s x j
theorem xorK_zero (s : List (BitVec 64)) (x : Nat → Nat) : xorK s x 0 = s := rfl
theorem xorK_succ (s : List (BitVec 64)) (x : Nat → Nat) (j : Nat) : (xorK s x j).set j (nth (xorK s x j) j ^^^ BitVec.ofNat 64 (x j)) = xorK s x (j + 1) := rfl
theorem foldl_len (cs : List Int) : ∀ l : List (BitVec 64), l.length = 25 → (cs.foldl rnd l).length = 25 := by
  induction cs with
  | nil => exact fun l h => h
  | cons c cs ih => exact fun l h => ih _ rfl
theorem turnS_len (l : List (BitVec 64)) (h : l.length = 25) : (turnS l).length = 25 := foldl_len consts l h
/-- A state behind so many blocks. -/
def absK (p : List Nat) : Nat → List (BitVec 64)
  | 0 => List.replicate 25 0
  | k + 1 => turnS (xorK (absK p k) (ob (blkF p k)) 17)
theorem absK_len (p : List Nat) : ∀ k, (absK p k).length = 25
  | 0 => by unfold absK; rw [List.length_replicate]
  | k + 1 => by unfold absK; exact turnS_len _ (by rw [xorK_len]; exact absK_len p k)
theorem absK_succ (p : List Nat) (k : Nat) : turnS (xorK (absK p k) (ob (blkF p k)) 17) = absK p (k + 1) := rfl
def blkN (n : Nat) : Nat := (n + 1 + padN n) / 136
theorem blkN_mul (n : Nat) : n + 1 + padN n = blkN n * 136 := by have := pad_mod n; unfold blkN; omega
/-- The digest's bytes. -/
def stB (s : List (BitVec 64)) : Nat → Nat := byteAt (fun q => (nth s q).toNat)
def sumG (xs : List Nat) : Nat → Nat := stB (absK (padS xs) (blkN xs.length))
def outG (s : List (BitVec 64)) (i : Nat) : Nat → Int := fun j => if j < i then ((stB s j : Nat) : Int) else 0
theorem outG_step (s : List (BitVec 64)) (i : Nat) (hi : i < 32) : (arr32 (outG s i)).setIfInBounds i (.int .u8 ((stB s i : Nat) : Int)) = arr32 (outG s (i + 1)) := by
  rw [arr32_set]
  refine arr32_congr fun j hj => ?_
  unfold outG
  by_cases h : j = i
  · rw [if_pos h, if_pos (by omega), h]
  · rw [if_neg h]
    by_cases h2 : j < i
    · rw [if_pos h2, if_pos (by omega)]
    · rw [if_neg h2, if_neg (by omega)]
theorem outG_end (s : List (BitVec 64)) : arr32 (outG s 32) = arr32 fun j => ((stB s j : Nat) : Int) := arr32_congr fun j hj => by unfold outG; rw [if_pos hj]
theorem outG_zero (s : List (BitVec 64)) : arr32 (outG s 0) = arr32 fun _ => 0 := arr32_congr fun j _ => by unfold outG; rw [if_neg (by omega)]
theorem idx17 (x : Nat → Nat) {q : Nat} (h : q < 17) (W : World) : (Instr.index 29 (.agg (lanes x)) (.int .i64 (q : Nat))).run Try.prog W = .ok (.int .u64 (x q : Nat)) W := by
  rcases (by omega : q = 0 ∨ q = 1 ∨ q = 2 ∨ q = 3 ∨ q = 4 ∨ q = 5 ∨ q = 6 ∨ q = 7 ∨ q = 8 ∨ q = 9 ∨ q = 10 ∨ q = 11 ∨ q = 12 ∨ q = 13 ∨ q = 14 ∨ q = 15 ∨ q = 16) with rfl | rfl | rfl | rfl | rfl | rfl | rfl | rfl | rfl | rfl | rfl | rfl | rfl | rfl | rfl | rfl | rfl <;> kernel_rfl
theorem zero25 (p : List Nat) : (#[.int .u64 0, .int .u64 0, .int .u64 0, .int .u64 0, .int .u64 0, .int .u64 0, .int .u64 0, .int .u64 0, .int .u64 0, .int .u64 0, .int .u64 0, .int .u64 0, .int .u64 0, .int .u64 0, .int .u64 0, .int .u64 0, .int .u64 0, .int .u64 0, .int .u64 0, .int .u64 0, .int .u64 0, .int .u64 0, .int .u64 0, .int .u64 0, .int .u64 0] : Array Value) = bvA (absK p 0) := rfl
def LayRel (s : List (BitVec 64)) (x : Nat → Nat) (gs : Nat) (V1 : World) (v : Value) (wr : World) : Prop := ∃ j : Nat, j ≤ 17 ∧ v = .int .i64 j ∧ Blk wr gs (bvA (xorK s x j)) 55 ∧ V1.grownBy wr (some gs)
theorem wp_scope_loop {P : Program} {a : Act} {w : World} {Q : Exit → Act → World → Prop} {c r : Code} (l : Nat) (J : Act → World → Prop) (μ : Act → World → Nat) (hf : findLabel c l = some (Code.seq .skip r))
    (pass : ∀ a w, J a w → r.wp P (Exit.jump l (fun a' w' => J a' w' ∧ μ a' w' < μ a w) Q) a w)
    (first : (∀ a w, J a w → r.wp P (Exit.jump l J Q) a w) → c.wp P (Exit.jump l J Q) a w) : (Code.scope c).wp P Q a w :=
  wp_scope_jumps l J μ hf (first fun a w h => wp_mono (pass a w h) (fun e a w hq => by
    cases e with
    | goto l' => exact ⟨hq.1, hq.2.1⟩
    | _ => exact hq)) (fun a w h => wp_seq (wp_skip (pass a w h)))
/-- What holds where the last loop of Sum begins anew. -/
def SumJ (B : Option Addr) (ln bc : Nat) (s : List (BitVec 64)) (w : World) (a : Act) (w' : World) : Prop :=
  ∃ (i D : Nat) (u1 u5 u6 u7 u8 u10 u11 u12 u13 u14 u15 u16 u17 u18 u19 u20 u21 u22 u23 u24 u25 u26 u27 u28 u29 u30 u31 u32 u33 u34 u35 u36 u37 u38 u39 u40 u41 u42 u43 u44 u45 u46 u47 u48 : Value), i < 32 ∧ a = { tmps := #[.slice B ln bc, u1, .pointer (some ⟨w.heap.size, 0, none⟩), .pointer (some ⟨w.heap.size + 2, 0, none⟩), .pointer (some ⟨w.heap.size + 3, 0, none⟩), u5, u6, u7, u8, .int .i64 (i : Nat), u10, u11, u12, u13, u14, u15, u16, u17, u18, u19, u20, u21, u22, u23, u24, u25, u26, u27, u28, u29, u30, u31, u32, u33, u34, u35, u36, u37, u38, u39, u40, u41, u42, u43, u44, u45, u46, u47, u48], defers := [{ target := .collected D, args := #[] }] } ∧ w.heap.size ≤ D ∧
    Blk w' w.heap.size (arr32 (outG s i)) 39 ∧ Blk w' (w.heap.size + 2) #[.pointer (some ⟨w.heap.size + 1, 0, none⟩)] 52 ∧ Blk w' (w.heap.size + 1) (bvA s) 55 ∧ Below w.heap.size w w' ∧ w'.heap[D]? = some (.deferred (some []))
attribute [local irreducible] turnS absK xorK
set_option maxHeartbeats 8000000 in
set_option maxRecDepth 20000 in
theorem sum_any (B : Option Addr) (l : List Prt) (bc : Nat) (xs : List Nat) (w : World) (hl : SlAt w B (l.map Prt.v)) (hp : ∀ p ∈ l, p.ok w) (hk : l.length ≤ 1000) (hbc : l.length ≤ bc) (hx : catP l = xs.map fun x => ((x : Nat) : Int)) (hn : xs.length ≤ 100000) (hb8 : ∀ x ∈ xs, x < 256) :
    Calls Try.prog 16 #[.slice B l.length bc] w fun e w' => e = .returned (.agg (arr32 fun j => ((sumG xs j : Nat) : Int))) ∧ Below w.heap.size w w' := by
  have hlen : lenP l = xs.length := by rw [← catP_len, hx, List.length_map]
  have HCAT := Lib.hid (fun V (hb : Below w.heap.size w V) => show Calls Try.prog 27 #[.slice B l.length bc] V (Gives V (natC xs) xs.length) by
    have := concat_any B l bc V (hl.grow hb) (fun p hp' => ⟨(hp p hp').1.grow hb, (hp p hp').2⟩) hk hbc (by omega)
    rw [hx, hlen] at this
    exact this)
  have HBL := Lib.hid (fun A cap V hS hcap hnil => blocks_any A xs cap V hS hcap hn hnil)
  have hpl := padS_len xs
  have hbm := blkN_mul xs.length
  have hpn := padN_lt xs.length
  have HSQ := Lib.hid (fun b g c V h1 h2 h3 h4 => blocks1_seq b g c (blkN xs.length) (xs.length + 1 + padN xs.length) (padS xs) V (fun k => k = b ∨ k = g) h1 h2 hpl hbm h3 (by omega) (padS_lt hb8) (.inl rfl) (.inr rfl) h4)
  have HSG := Lib.hid (show ∀ j, stB (absK (padS xs) (blkN xs.length)) j = sumG xs j from fun j => rfl)
  have HPB := Lib.hid (padS_lt hb8)
  clear hl hp hb8 hx hlen hpl hbm
  generalize blkN xs.length = m at *
  generalize hln : l.length = ln at *
  refine calls_marks Try.func16 rfl ?_
  simp only [Try.ntmps16, List.size_toArray, List.length_cons, List.length_nil, Nat.reduceAdd, Nat.reduceSub, Array.replicate_succ, Array.replicate_zero, List.push_toArray, List.append_toArray, List.nil_append, List.cons_append]
  go_wp2_with fail
  refine wp_scope_loop 0 (SumJ B ln bc (absK (padS xs) m) w) (fun a' _ => 32 - (intOf (a'.tmps.getD 9 undef)).toNat) rfl ?_ ?_
  · rintro a' w' ⟨i, D, u1, u5, u6, u7, u8, u10, u11, u12, u13, u14, u15, u16, u17, u18, u19, u20, u21, u22, u23, u24, u25, u26, u27, u28, u29, u30, u31, u32, u33, u34, u35, u36, u37, u38, u39, u40, u41, u42, u43, u44, u45, u46, u47, u48, hi, rfl, hD, ho, hb, hs, hB, hDl⟩
    have hs8 := absK_len (padS xs) m
    generalize absK (padS xs) m = s at *
    have hcs := (hs.cell (i / 8)).trans (bvA_at s (show i / 8 < s.length by omega))
    have hco := (ho.cell i).trans (arr32_at (outG s i) hi)
    have hfo := ho.free i
    have hcp : w'.cell? ⟨w.heap.size + 2, 0, none⟩ = some (.pointer (some ⟨w.heap.size + 1, 0, none⟩)) := hb.cell 0
    have hv : ((stB s i : Nat) : Int) = ((nth s (i / 8)).toNat : Int) / 2 ^ (8 * (i % 8)) % 256 := by unfold stB byteAt; simp
    have hbk := Blk.set ho i (.int .u8 ((stB s i : Nat) : Int))
    rw [outG_step s i hi, hv] at hbk
    have hl0 := ho.lt
    have HK := Lib.hid hbk
    have HP2 := Lib.hid (Blk.other hb (show w.heap.size + 2 ≠ w.heap.size by omega) i (.int .u8 (((nth s (i / 8)).toNat : Int) / 2 ^ (8 * (i % 8)) % 256)))
    have HS2 := Lib.hid (Blk.other hs (show w.heap.size + 1 ≠ w.heap.size by omega) i (.int .u8 (((nth s (i / 8)).toNat : Int) / 2 ^ (8 * (i % 8)) % 256)))
    have HB2 := Lib.hid (hB.setCell (p := ⟨w.heap.size, i, none⟩) (Nat.le_refl _) (.int .u8 (((nth s (i / 8)).toNat : Int) / 2 ^ (8 * (i % 8)) % 256)))
    have hDl2 : (w'.setCell ⟨w.heap.size, i, none⟩ (.int .u8 (((nth s (i / 8)).toNat : Int) / 2 ^ (8 * (i % 8)) % 256))).heap[D]? = some (.deferred (some [])) := (Below.heap_setCell w' ⟨w.heap.size, i, none⟩ _ D (fun e => by
      simp only at e
      rw [e] at hDl
      have := ho
      unfold Blk at this
      rw [this] at hDl
      cases hDl)).trans hDl
    have HD2 := Lib.hid hDl2
    clear hbk hs hb hB hDl hDl2 hv ho
    by_cases hlt : i + 1 < 32
    · have hd : decide ((i : Int) + 1 < 32) = true := by simp; omega
      go_wp2_with fail
      go_step3
      refine ⟨rfl, ⟨i + 1, D, _, _, _, _, _, _, _, _, _, _, _, _, _, _, _, _, _, _, _, _, _, _, _, _, _, _, _, _, _, _, _, _, _, _, _, _, _, _, _, _, _, _, _, _, hlt, rfl, hD, HK.out, HP2.out, HS2.out, HB2.out, HD2.out⟩, ?_⟩
      simp [intOf]; omega
    · have hd : decide ((i : Int) + 1 < 32) = false := by simp; omega
      have hi31 : i + 1 = 32 := by omega
      rw [hi31, outG_end] at HK
      have hu : Try.prog.underlying 39 = some (.array 32 5) := by kernel_rfl
      have hiz : (Try.prog.info? 39).map (·.size) = some 32 := by kernel_rfl
      have HU := Lib.hid hu
      have HI := Lib.hid hiz
      have HSG2 := Lib.hid (show arr32 (fun j => ((stB s j : Nat) : Int)) = arr32 fun j => ((sumG xs j : Nat) : Int) from arr32_congr fun j _ => by rw [HSG.out])
      clear hu hiz
      go_wp2_with (first
        | (refine wpList_load_row rfl 39 (.tmp 2) (by with_reducible rfl) _ rfl _ _ (0, 0) _ HK.out HU.out rfl HI.out ?_)
        | (refine wpList_store_row rfl 39 (.tmp 2) (.tmp 48) (by with_reducible rfl) _ _ rfl rfl _ _ HK.out HI.out rfl (by simp [Value.oneCell']) ?_))
      simp only [Exit.jump]
      have hSR := setRow_heap _ _ _ (arr32 fun j => ((stB s j : Nat) : Int)) _ _ HK.out
      have hDn : D ≠ w.heap.size := fun e => by
        have h1 := HD2.out
        rw [e] at h1
        have h2 := HK.out
        unfold Blk at h2
        rw [h2] at h1
        cases h1
      refine ret_mark1 (D := D) ((setRow_other _ _ _ _ hDn).trans HD2.out) (results_cell_row (p := 2) (ty := 39) rfl _ _ w.heap.size _ _ (0, 0) _ rfl ((World.putObj_heap_other (Ne.symm hDn)).trans hSR) HU.out rfl HI.out) ⟨by rw [HSG2.out], ?_⟩
      exact Below.put (below_setRow HB2.out (Nat.le_refl _) _) _ hD
  · intro HREST
    go_upto_region 3 with (fail)
    refine wp_name fun W1 hW1 => ?_
    have hz1 : W1.heap.size = w.heap.size + 4 := by rw [hW1]; simp
    have hB1 : Below w.heap.size w W1 := by rw [hW1]; go_grown
    have hO1 : Own ((fun (k : Nat) => [(w.heap.size + 3, #[.func (.func 26) #[] #[.pointer (some ⟨w.heap.size + 2, 0, none⟩)]], 58), (w.heap.size + 2, #[.pointer (some ⟨w.heap.size + 1, 0, none⟩)], 52), (w.heap.size + 1, bvA (absK (padS xs) k), 55), (w.heap.size, arr32 fun _ => 0, 39)]) 0) W1 := by
      rw [hW1]
      dsimp only
      rw [← zero25]
      exact Own.new (Own.new (Own.new (Own.new (Own.nil w) _ rfl) _ (by simp)) _ (by simp)) _ (by simp)
    clear hW1
    have HO1 := Lib.hid hO1
    clear hO1
    go_wp2_with fail
    refine (HCAT.out W1 hB1).mono ?_
    rintro e w2 ⟨A, c, rfl, hs2, hc2, hb2, _⟩
    have hz2 := hb2.size
    go_wp2_with fail
    refine (HBL.out A c w2 hs2 hc2 (fun h => ?_)).mono ?_
    · subst h
      rcases hs2 with h | ⟨b, off, h, _⟩
      · exact List.eq_nil_of_length_eq_zero (by rw [← natC_len, h]; rfl)
      · cases h
    rintro e W2 ⟨b, g, c3, rfl, ⟨hbb, hbg, hgl, hcb, hcc, hcg⟩, hb3⟩
    have hz3 := hb3.size
    have hbl := World.block_lt_of_cell? W2 _ hcb
    have hB2 : Below w.heap.size w W2 := hB1.trans ((hb2.mono (by omega)).trans (hb3.mono (by omega)))
    have hO2 := (HO1.out.grow hb2).grow hb3
    have HSEQ := Lib.hid (HSQ.out b g c3 W2 hcb hcg hcc hgl)
    clear hb2 hb3 hcb hcg hs2 HSQ HCAT HBL HO1
    go_wp2_with fail
    have hI : AnyFrom W2.heap.size (EI (fun (k : Nat) => [(w.heap.size + 3, #[.func (.func 26) #[] #[.pointer (some ⟨w.heap.size + 2, 0, none⟩)]], 58), (w.heap.size + 2, #[.pointer (some ⟨w.heap.size + 1, 0, none⟩)], 52), (w.heap.size + 1, bvA (absK (padS xs) k), 55), (w.heap.size, arr32 fun _ => 0, 39)]) w.heap.size w [] (fun k => k = b ∨ k = g) W2) := EI.any (by simp only [List.mem_cons, List.not_mem_nil, or_false, forall_eq, forall_eq_or_imp]; omega) (fun D h => (by cases h)) (Nat.le_refl _) hB2.size (fun k hk => by rcases hk with rfl | rfl <;> assumption)
    refine wp_each (w0 := W2) (xs := units m) (encs := encB (padS xs)) (S := fun k => k = b ∨ k = g) rfl (enters_of Try.func22 (by kernel_rfl) rfl) HSEQ.out (fun k hk => by rcases hk with rfl | rfl <;> assumption) (Keep.refl _ _) (fun _ _ => rfl)
      (EI (fun (k : Nat) => [(w.heap.size + 3, #[.func (.func 26) #[] #[.pointer (some ⟨w.heap.size + 2, 0, none⟩)]], 58), (w.heap.size + 2, #[.pointer (some ⟨w.heap.size + 1, 0, none⟩)], 52), (w.heap.size + 1, bvA (absK (padS xs) k), 55), (w.heap.size, arr32 fun _ => 0, 39)]) w.heap.size w [] (fun k => k = b ∨ k = g) W2) (fun _ _ _ => False) ?hI ?hIx ?h0 ?round ?done ?stop
    case hI => exact hI
    case hIx => exact fun c k V V' row h hg hr => h
    case h0 => exact ⟨hO2, hB2, fun D h => (by cases h), Keep.refl _ _⟩
    case round =>
      rintro l' k y V hx hE hl'
      dsimp only [encB, lanes]
      gi_wp2
      refine ⟨(Keep.refl _ _).alloc _, fun V' => EI (fun (k : Nat) => [(w.heap.size + 3, #[.func (.func 26) #[] #[.pointer (some ⟨w.heap.size + 2, 0, none⟩)]], 58), (w.heap.size + 2, #[.pointer (some ⟨w.heap.size + 1, 0, none⟩)], 52), (w.heap.size + 1, bvA (absK (padS xs) k), 55), (w.heap.size, arr32 fun _ => 0, 39)]) w.heap.size w [] (fun k => k = b ∨ k = g) W2 k V' ∧ Blk V' V.heap.size (lanes (ob (blkF (padS xs) k))) 29, ?own, ⟨AnyFrom.alloc (B := W2.heap.size) hI _ hE, heap_alloc_new _ _⟩, ?body⟩
      case own => exact fun _ V V' row ⟨hE, hb⟩ hg hr => ⟨hI.from _ V V' row hE hg hr, ownFrom_blk (β := Unit) () V V' row hb hg hr⟩
      case body =>
      have hkl : k < m := by have := (List.getElem?_eq_some_iff.1 hx).1; rwa [units_len] at this
      have hVs := hE.1.lt 0 rfl
      have hak := absK_succ (padS xs) k
      have hXL : ∀ q, ob (blkF (padS xs) k) q < 2 ^ 64 := fun q => ob_lt (blkF_lt HPB.out k) q
      have hs8 := absK_len (padS xs) k
      generalize V.heap.size = bx at *
      clear hE hx
      rintro U ⟨⟨hOV, hbV, _, hkV⟩, hbx⟩
      dsimp only at hOV
      generalize ob (blkF (padS xs) k) = x at *
      generalize absK (padS xs) k = s at *
      have HAK := Lib.hid hak
      have HXL := Lib.hid hXL
      have HOV := Lib.hid hOV
      have HBV := Lib.hid hbV
      have HKV := Lib.hid hkV
      have hlx := hbx.lt
      clear hak hXL hOV hbV hkV
      have q0 : U.cell? ⟨bx, 0, none⟩ = some (.int .u64 ((x 0 : Nat) : Int)) := hbx.cell 0
      have q1 : U.cell? ⟨bx, 1, none⟩ = some (.int .u64 ((x 1 : Nat) : Int)) := hbx.cell 1
      have q2 : U.cell? ⟨bx, 2, none⟩ = some (.int .u64 ((x 2 : Nat) : Int)) := hbx.cell 2
      have q3 : U.cell? ⟨bx, 3, none⟩ = some (.int .u64 ((x 3 : Nat) : Int)) := hbx.cell 3
      have q4 : U.cell? ⟨bx, 4, none⟩ = some (.int .u64 ((x 4 : Nat) : Int)) := hbx.cell 4
      have q5 : U.cell? ⟨bx, 5, none⟩ = some (.int .u64 ((x 5 : Nat) : Int)) := hbx.cell 5
      have q6 : U.cell? ⟨bx, 6, none⟩ = some (.int .u64 ((x 6 : Nat) : Int)) := hbx.cell 6
      have q7 : U.cell? ⟨bx, 7, none⟩ = some (.int .u64 ((x 7 : Nat) : Int)) := hbx.cell 7
      have q8 : U.cell? ⟨bx, 8, none⟩ = some (.int .u64 ((x 8 : Nat) : Int)) := hbx.cell 8
      have q9 : U.cell? ⟨bx, 9, none⟩ = some (.int .u64 ((x 9 : Nat) : Int)) := hbx.cell 9
      have q10 : U.cell? ⟨bx, 10, none⟩ = some (.int .u64 ((x 10 : Nat) : Int)) := hbx.cell 10
      have q11 : U.cell? ⟨bx, 11, none⟩ = some (.int .u64 ((x 11 : Nat) : Int)) := hbx.cell 11
      have q12 : U.cell? ⟨bx, 12, none⟩ = some (.int .u64 ((x 12 : Nat) : Int)) := hbx.cell 12
      have q13 : U.cell? ⟨bx, 13, none⟩ = some (.int .u64 ((x 13 : Nat) : Int)) := hbx.cell 13
      have q14 : U.cell? ⟨bx, 14, none⟩ = some (.int .u64 ((x 14 : Nat) : Int)) := hbx.cell 14
      have q15 : U.cell? ⟨bx, 15, none⟩ = some (.int .u64 ((x 15 : Nat) : Int)) := hbx.cell 15
      have q16 : U.cell? ⟨bx, 16, none⟩ = some (.int .u64 ((x 16 : Nat) : Int)) := hbx.cell 16

      gi_wp2
      rw [show (#[.int .u64 ((x 0 : Nat) : Int), .int .u64 ((x 1 : Nat) : Int), .int .u64 ((x 2 : Nat) : Int), .int .u64 ((x 3 : Nat) : Int), .int .u64 ((x 4 : Nat) : Int), .int .u64 ((x 5 : Nat) : Int), .int .u64 ((x 6 : Nat) : Int), .int .u64 ((x 7 : Nat) : Int), .int .u64 ((x 8 : Nat) : Int), .int .u64 ((x 9 : Nat) : Int), .int .u64 ((x 10 : Nat) : Int), .int .u64 ((x 11 : Nat) : Int), .int .u64 ((x 12 : Nat) : Int), .int .u64 ((x 13 : Nat) : Int), .int .u64 ((x 14 : Nat) : Int), .int .u64 ((x 15 : Nat) : Int), .int .u64 ((x 16 : Nat) : Int)] : Array Value) = lanes x from rfl]
      clear q0 q1 q2 q3 q4 q5 q6 q7 q8 q9 q10 q11 q12 q13 q14 q15 q16
      gi_loopw [19] (fun v wr => LayRel s x (w.heap.size + 1) U v wr) (fun v _ => 17 - (intOf v).toNat)
      case atStart => exact ⟨0, Nat.zero_le _, rfl, by rw [xorK_zero]; exact HOV.out.get 2 rfl, grownBy_refl _ _⟩
      case round =>
        obtain ⟨j, hj, rfl, hblk, hgr⟩ := hrel
        have how : Own [(w.heap.size + 3, #[.func (.func 26) #[] #[.pointer (some ⟨w.heap.size + 2, 0, none⟩)]], 58), (w.heap.size + 2, #[.pointer (some ⟨w.heap.size + 1, 0, none⟩)], 52), (w.heap.size, arr32 fun _ => 0, 39)] wr :=
          own_grown (H := [(w.heap.size + 3, #[.func (.func 26) #[] #[.pointer (some ⟨w.heap.size + 2, 0, none⟩)]], 58), (w.heap.size + 2, #[.pointer (some ⟨w.heap.size + 1, 0, none⟩)], 52), (w.heap.size, arr32 fun _ => 0, 39)]) (fun p hp => HOV.out p (by simp only [List.mem_cons, List.not_mem_nil, or_false] at hp ⊢; rcases hp with h | h | h <;> simp [h])) hgr (by simp only [List.mem_cons, List.not_mem_nil, or_false, forall_eq_or_imp, forall_eq]; exact ⟨by omega, by omega, by omega⟩)
        have c4 : wr.cell? ⟨w.heap.size + 3, 0, none⟩ = some (.func (.func 26) #[] #[.pointer (some ⟨w.heap.size + 2, 0, none⟩)]) := (how.get 0 rfl).cell 0
        have c3 : wr.cell? ⟨w.heap.size + 2, 0, none⟩ = some (.pointer (some ⟨w.heap.size + 1, 0, none⟩)) := (how.get 1 rfl).cell 0
        have hb3 := Lib.hid (how.get 1 rfl)
        have HGR := Lib.hid hgr
        have HBK := Lib.hid hblk
        have hle := xorK_len s x j
        rw [hs8] at hle
        have HOW := Lib.hid how
        clear how hgr hblk
        by_cases hlt' : j < 17
        · have hidx := fun W => idx17 x hlt' W
          gi_wp2
          refine ⟨trivial, rfl, (callR l' (lay_any (xorK s x j) hle j (x j) (by omega) (HXL.out j) (w.heap.size + 2) (w.heap.size + 1) wr hb3.out HBK.out (by omega))).mono ?_⟩
          rintro e wz ⟨⟨_, rfl⟩, hbz, hgz⟩
          rw [xorK_succ] at hbz
          have HZ := Lib.hid hbz
          have HGZ := Lib.hid hgz
          clear hbz hgz hidx c4 c3
          gi_wp2
          exact ⟨⟨j + 1, by omega, by go_num, HZ.out, grownBy_trans HGR.out HGZ.out⟩, by simp [intOf]; omega⟩
        · obtain rfl : j = 17 := by omega
          gi_wp2
          refine ⟨trivial, rfl, (callR l' (turnM_calls hle (w.heap.size + 1) wr HBK.out)).mono ?_⟩
          rintro e wz ⟨⟨_, rfl⟩, hbz, hgz⟩
          rw [HAK.out] at hbz
          have HZ := Lib.hid hbz
          have hgt := grownBy_trans HGR.out hgz
          have HGT := Lib.hid hgt
          have how2 := own_grown HOW.out hgz (by simp only [List.mem_cons, List.not_mem_nil, or_false, forall_eq_or_imp, forall_eq]; exact ⟨by omega, by omega, by omega⟩)
          have HOW2 := Lib.hid how2
          clear hbz hgz hgt how2 c4 c3
          gi_wp2
          refine ⟨keep_grown (Keep.refl _ _) HGT.out (.inl (by rintro ((h | h) | h) <;> omega)), ?_, HBV.out.grown HGT.out HBV.out.size (fun k e => by cases e; omega), fun D h => (by cases h), keep_grown HKV.out HGT.out (.inl (by rintro (h | h) <;> omega))⟩
          exact Own.cons (HOW2.out.get 0 rfl) (Own.cons (HOW2.out.get 1 rfl) (Own.cons HZ.out (Own.cons (HOW2.out.get 2 rfl) (Own.nil _))))
    case done =>
      rintro V ⟨hO, hb, _, hkp⟩ hD
      rw [units_len] at hO
      dsimp only at hO
      go_wp2_with fail
      refine wp_label ?_
      simp only [Exit.then]
      have hKK := (by assumption : ∀ (a : Act) (w_1 : World), Code.wp _ _ _ a w_1 → _)
      refine hKK _ _ ?_
      have h0 : Blk V w.heap.size (arr32 (outG (absK (padS xs) m) 0)) 39 := by rw [outG_zero]; exact hO.get 3 rfl
      exact HREST _ _ ⟨0, W2.heap.size, _, _, _, _, _, _, _, _, _, _, _, _, _, _, _, _, _, _, _, _, _, _, _, _, _, _, _, _, _, _, _, _, _, _, _, _, _, _, _, _, _, _, _, _, by decide, rfl, hB2.size, h0, hO.get 1 rfl, hO.get 2 rfl, hb, hD⟩
    case stop => exact fun c k V hk h hD => h.elim
end Go.Proofs.Ytojmifniidddpaa
