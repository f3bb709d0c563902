/- Walks: slices.Values over pairs of words; what is reached, one behind the other. -/
import Derived.Test.YtclgoamhbakdlaaPriceW
import Derived.Test.YtclgoamhbakdlaaRngB
import Derived.OwnWalkIn
import Derived.TacticsInMore
import Derived.LoopNIn
import Derived.LoopIn
set_option linter.unusedVariables false
set_option linter.unusedSimpArgs false
namespace Go.Proofs.Ytclgoamhbakdlaa
open Go.RowKit
attribute [local go_sem] Oper.semAt_some

abbrev WW := BitVec 256 × BitVec 256
def pairC (x : WW) : List Value := [.int .u64 (L x.1 0), .int .u64 (L x.1 1), .int .u64 (L x.1 2), .int .u64 (L x.1 3), .int .u64 (L x.2 0), .int .u64 (L x.2 1), .int .u64 (L x.2 2), .int .u64 (L x.2 3)]
def pairsC (l : List WW) : List Value := l.flatMap pairC
theorem pairsC_at {xs : List WW} {i j : Nat} {x : WW} {u : Value} (h : xs[i]? = some x) (hu : (pairC x)[j]? = some u) : (pairsC xs)[i * 8 + j]? = some u := by
  have hj : j < 8 := (List.getElem?_eq_some_iff.1 hu).1
  rw [pairsC, flat_at (f := pairC) (n := 8) (fun _ => rfl) xs i x h j hj, hu]
abbrev encP : Nat → WW → Array Value := fun _ x => #[.agg #[.int .u64 (L x.1 0), .int .u64 (L x.1 1), .int .u64 (L x.1 2), .int .u64 (L x.1 3), .int .u64 (L x.2 0), .int .u64 (L x.2 1), .int .u64 (L x.2 2), .int .u64 (L x.2 3)]]
def ValRel (J : Nat → World → Prop) (n : Nat) (S : Nat → Prop) (w0 : World) (i : Value) (wr : World) : Prop := ∃ k : Nat, k ≤ n ∧ i = .int .i64 k ∧ J k wr ∧ Keep S w0 wr
set_option maxHeartbeats 4000000 in
set_option maxRecDepth 20000 in
theorem values1_seq (b : Nat) (A : Option Addr) (xs : List WW) (cap : Nat) (w0 : World) (S : Nat → Prop) (hc : w0.cell? ⟨b, 0, none⟩ = some (.slice A xs.length cap)) (hS : SlAt w0 A (pairsC xs)) (hcap : xs.length ≤ cap) (hn : xs.length ≤ 100000) (hb : S b) (hA : pairsC xs ≠ [] → ∀ b' off, A = some ⟨b', off, none⟩ → S b') :
    Seq Try.prog 46 #[.pointer (some ⟨b, 0, none⟩)] encP xs S w0 := by
  intro l J Jx W hW hJ hJx hY h0
  have hcW : W.cell? ⟨b, 0, none⟩ = some (.slice A xs.length cap) := hW.cell hc hb
  have HS := Lib.hid hS
  have HY := Lib.hid hY
  have HJ := Lib.hid hJ
  have HX := Lib.hid hJx
  clear hY hJ hJx hS
  generalize hln : xs.length = n at *
  refine (callsIn_wide (n := 0)).1 (callsIn_of_wp Try.func46 rfl trivial ?_ rfl)
  simp only [Try.ntmps46, List.size_toArray, List.length_cons, List.length_nil, Nat.reduceAdd, Nat.reduceSub, Array.replicate_succ, Array.replicate_zero, List.push_toArray, List.append_toArray, List.nil_append, List.cons_append]
  gi_wp2
  gi_loopw [7] (fun i wr => ValRel J n S w0 i wr) (fun i _ => n - (intOf i).toNat)
  case atStart => exact ⟨0, Nat.zero_le _, rfl, h0, hW⟩
  case round =>
    obtain ⟨k, hk, rfl, hj, hb⟩ := hrel
    by_cases hlt' : k < n
    · obtain ⟨x, hx⟩ : ∃ x, xs[k]? = some x := ⟨xs[k], by simp [hln, hlt']⟩
      obtain ⟨b', off, rfl, hbl, hcell⟩ := HS.out.cell (pairsC_at (j := 0) hx (by rfl))
      have hAb : S b' := hA (by intro h; exact absurd (pairsC_at (j := 0) hx (by rfl)) (by rw [h]; simp)) _ _ rfl
      have hc0 : wr.cell? ⟨b', off + k * 8, none⟩ = some (.int .u64 (L x.1 0)) := hb.cell (by have := hcell (k * 8) _ (pairsC_at (j := 0) hx (by rfl)); simpa [Nat.add_assoc] using this) hAb
      have hc1 : wr.cell? ⟨b', off + k * 8 + 1, none⟩ = some (.int .u64 (L x.1 1)) := hb.cell (by have := hcell (k * 8 + 1) _ (pairsC_at (j := 1) hx (by rfl)); simpa [Nat.add_assoc] using this) hAb
      have hc2 : wr.cell? ⟨b', off + k * 8 + 2, none⟩ = some (.int .u64 (L x.1 2)) := hb.cell (by have := hcell (k * 8 + 2) _ (pairsC_at (j := 2) hx (by rfl)); simpa [Nat.add_assoc] using this) hAb
      have hc3 : wr.cell? ⟨b', off + k * 8 + 3, none⟩ = some (.int .u64 (L x.1 3)) := hb.cell (by have := hcell (k * 8 + 3) _ (pairsC_at (j := 3) hx (by rfl)); simpa [Nat.add_assoc] using this) hAb
      have hc4 : wr.cell? ⟨b', off + k * 8 + 4, none⟩ = some (.int .u64 (L x.2 0)) := hb.cell (by have := hcell (k * 8 + 4) _ (pairsC_at (j := 4) hx (by rfl)); simpa [Nat.add_assoc] using this) hAb
      have hc5 : wr.cell? ⟨b', off + k * 8 + 5, none⟩ = some (.int .u64 (L x.2 1)) := hb.cell (by have := hcell (k * 8 + 5) _ (pairsC_at (j := 5) hx (by rfl)); simpa [Nat.add_assoc] using this) hAb
      have hc6 : wr.cell? ⟨b', off + k * 8 + 6, none⟩ = some (.int .u64 (L x.2 2)) := hb.cell (by have := hcell (k * 8 + 6) _ (pairsC_at (j := 6) hx (by rfl)); simpa [Nat.add_assoc] using this) hAb
      have hc7 : wr.cell? ⟨b', off + k * 8 + 7, none⟩ = some (.int .u64 (L x.2 3)) := hb.cell (by have := hcell (k * 8 + 7) _ (pairsC_at (j := 7) hx (by rfl)); simpa [Nat.add_assoc] using this) hAb
      have hj1 : J k (wr.alloc (.cells #[.int .u64 (L x.1 0), .int .u64 (L x.1 1), .int .u64 (L x.1 2), .int .u64 (L x.1 3), .int .u64 (L x.2 0), .int .u64 (L x.2 1), .int .u64 (L x.2 2), .int .u64 (L x.2 3)] 55)) := HJ.out.alloc _ hj
      obtain ⟨fn, tmps, assign, body, hy, hR⟩ := HY.out k x _ hx hj1
      have hb2 := hb.alloc (.cells #[.int .u64 (L x.1 0), .int .u64 (L x.1 1), .int .u64 (L x.1 2), .int .u64 (L x.1 3), .int .u64 (L x.2 0), .int .u64 (L x.2 1), .int .u64 (L x.2 2), .int .u64 (L x.2 3)] 55)
      try simp only [encP] at hy
      clear hcell hj hj1
      gi_wp2
      refine ⟨rfl, ?_⟩
      refine hR.mono ?_
      rintro e W' (⟨rfl, hJ', hk'⟩ | ⟨rfl, hJx', _⟩)
      · have hb3 := hb2.trans (hk'.mono (fun _ h => .inl h))
        clear hk' hc0 hc1 hc2 hc3 hc4 hc5 hc6 hc7 hy hR hb hb2
        gi_wp2
        exact ⟨⟨k + 1, by omega, by go_num, hJ', hb3⟩, by simp [intOf]; omega⟩
      · clear hc0 hc1 hc2 hc3 hc4 hc5 hc6 hc7 hy hR hb hb2
        gi_wp2
        refine bodyPost_ret (results_none rfl _ _ _) rfl ?_
        exact ⟨⟨_, rfl⟩, .inr ⟨k + 1, by omega, hJx'⟩⟩
    · obtain rfl : k = n := by omega
      gi_wp2
      go_end0
      exact ⟨⟨_, rfl⟩, .inl hj⟩
theorem values_any (A : Option Addr) (n cap : Nat) (w : World) : Calls Try.prog 34 #[.slice A n cap] w fun e w' => e = .returned (.func (.func 46) #[] #[.pointer (some ⟨w.heap.size, 0, none⟩)]) ∧ w' = w.alloc (.cells #[.slice A n cap] 49) := by
  go_enter Try.func34, Try.ntmps34
  go_wp2_with fail
  go_ret
  exact ⟨rfl, rfl⟩
/-! ### What is reached, one behind the other. -/
def atW (xs : List WW) (k : Nat) : WW := xs.getD k (0, 0)
theorem atW_of {xs : List WW} {k : Nat} {x : WW} (h : xs[k]? = some x) : atW xs k = x := by unfold atW; rw [List.getD_eq_getElem?_getD, h]; rfl
def nK (n : Int) (xs : List WW) : Nat → Int
  | 0 => n
  | k + 1 => reachN (nK n xs k) (atW xs k).1 (atW xs k).2
def aK (n : Int) (xs : List WW) : Nat → Int
  | 0 => 0
  | k + 1 => aK n xs k + reachC (nK n xs k) (atW xs k).1 (atW xs k).2
def eK (n : Int) (xs : List WW) (k : Nat) : Int := reachE (nK n xs k) (atW xs k).1 (atW xs k).2
/-- So many are reached. -/
def Upto (n : Int) (xs : List WW) (m : Nat) : Prop := m ≤ xs.length ∧ (∀ j, j < m → eK n xs j = 0) ∧ (m < xs.length → eK n xs m ≠ 0)
theorem upto_has (n : Int) (xs : List WW) : ∃ m, Upto n xs m := by
  have : ∀ d k, k + d = xs.length → (∀ j, j < k → eK n xs j = 0) → ∃ m, Upto n xs m := fun d => by
    induction d with
    | zero => exact fun k hk h => ⟨k, by omega, h, fun h => by omega⟩
    | succ d ih =>
      intro k hk h
      by_cases he : eK n xs k = 0
      · exact ih (k + 1) (by omega) (fun j hj => by
          rcases Nat.lt_or_ge j k with h1 | h1
          · exact h j h1
          · obtain rfl : j = k := by omega
            exact he)
      · exact ⟨k, by omega, h, fun _ => he⟩
  exact this xs.length 0 (by omega) (fun j hj => by omega)
def zsK (n : Int) (xs : List WW) (m : Nat) : List (Int × Int) := (List.range m).map fun k => (nK n xs (k + 1), aK n xs (k + 1))
theorem zsK_len (n : Int) (xs : List WW) (m : Nat) : (zsK n xs m).length = m := by simp [zsK]
theorem zsK_at {n : Int} {xs : List WW} {m k : Nat} (h : k < m) : (zsK n xs m)[k]? = some (nK n xs (k + 1), aK n xs (k + 1)) := by simp [zsK, h]
theorem reachC_bd (n : Int) (x y : BitVec 256) : 0 ≤ reachC n x y ∧ reachC n x y ≤ 600000000000 := by
  unfold reachC
  rcases ho : okI n with _ | _
  · simp
  · have hn : 0 ≤ n ∧ n ≤ 16777216 := by simp only [okI, Bool.and_eq_true, decide_eq_true_eq] at ho; exact ho
    simp only [if_true]
    split
    · omega
    · rcases he : endOk x y with _ | _
      · simp
      · have h3 : L (x + y) 0 ≤ 16777216 := by
          unfold endOk at he
          simp only [Bool.and_eq_true, decide_eq_true_eq] at he
          exact he.2.2.1
        have := wordsI_le h3
        have h4 := costI_bd (n := max n (wordsI (L (x + y) 0))) (by omega) (by omega)
        have h5 := costI_bd hn.1 hn.2
        have h6 := costI_mono (a := n) (b := max n (wordsI (L (x + y) 0))) hn.1 (by omega)
        simp only [if_true]
        omega
theorem aK_bd (n : Int) (xs : List WW) : ∀ k, 0 ≤ aK n xs k ∧ aK n xs k ≤ 600000000000 * k
  | 0 => by simp [aK]
  | k + 1 => by
    have := aK_bd n xs k
    have := reachC_bd (nK n xs k) (atW xs k).1 (atW xs k).2
    unfold aK
    omega
abbrev encZ : Nat → Int × Int → Array Value := fun _ x => #[.int .i64 x.1, .int .u64 x.2]
end Go.Proofs.Ytclgoamhbakdlaa
