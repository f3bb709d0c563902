/- Bytes, and what comes behind them; a copy of bytes. -/
import Derived.Test.YtojmifniidddpaaDigG
import Derived.Test.YtojmifniidddpaaDWr
set_option linter.unusedVariables false
set_option linter.unusedSimpArgs false
namespace Go.Proofs.Ytojmifniidddpaa
open Go.RowKit

theorem natC_app (a b : List Nat) : natC (a ++ b) = natC a ++ natC b := by simp [natC, bytesC]
theorem natC_len (a : List Nat) : (natC a).length = a.length := by simp [natC, bytesC]
theorem natC_rep (k x : Nat) : natC (List.replicate k x) = List.replicate k (.int .u8 (x : Int)) := by simp [natC, bytesC]
theorem natC_one (l : List Nat) : ∀ u ∈ natC l, u.oneCell' = true := bytesC_one _
theorem natC_set (l : List Nat) (j x : Nat) : natC (l.set j x) = (natC l).set j (.int .u8 (x : Int)) := by simp [natC, bytesC, List.map_set]
theorem natC_at {l : List Nat} {k x : Nat} (h : l[k]? = some x) : (natC l)[k]? = some (.int .u8 (x : Int)) := by simp [natC, bytesC, h]
/-- How many noughts come behind. -/
def padN (n : Nat) : Nat := (136 - (n + 1) % 136) % 136
def padL (xs : List Nat) (k : Nat) : List Nat := xs ++ 1 :: List.replicate k 0
def lastN (k : Nat) : Nat := if k = 0 then 1 else 0
/-- Bytes, and what comes behind. -/
def padS (xs : List Nat) : List Nat := (padL xs (padN xs.length)).set (xs.length + padN xs.length) (lastN (padN xs.length) ||| 128)
theorem padL_len (xs : List Nat) (k : Nat) : (padL xs k).length = xs.length + 1 + k := by simp [padL]; omega
theorem padL_last (xs : List Nat) (k : Nat) : (padL xs k)[xs.length + k]? = some (lastN k) := by
  unfold padL lastN
  rw [List.getElem?_append_right (by omega), show xs.length + k - xs.length = k by omega]
  cases k with
  | zero => rfl
  | succ k => rw [List.getElem?_cons_succ, List.getElem?_replicate]; simp
theorem padL_succ (xs : List Nat) (k : Nat) : padL xs (k + 1) = padL xs k ++ [0] := by
  unfold padL
  rw [List.replicate_succ', ← List.cons_append, List.append_assoc]
theorem padL_zero (xs : List Nat) : padL xs 0 = xs ++ [1] := rfl
theorem padL_all (xs : List Nat) (k : Nat) : natC (padL xs k) = natC (xs ++ [1]) ++ List.replicate k (.int .u8 0) := by
  unfold padL
  rw [natC_app, natC_app, List.append_assoc]
  congr 1
  rw [show (1 :: List.replicate k 0) = [1] ++ List.replicate k 0 from rfl, natC_app, natC_rep]
  rfl
theorem padS_len (xs : List Nat) : (padS xs).length = xs.length + 1 + padN xs.length := by unfold padS; rw [List.length_set, padL_len]
theorem pad_mod (n : Nat) : (n + 1 + padN n) % 136 = 0 := by unfold padN; omega
theorem pad_more {n k : Nat} (h : k < padN n) : (n + 1 + k) % 136 ≠ 0 := by unfold padN at h; omega
theorem padN_lt (n : Nat) : padN n < 136 := by unfold padN; omega
theorem last_or (k : Nat) : bits .or .u8 ((lastN k : Nat) : Int) 128 = ((lastN k ||| 128 : Nat) : Int) := by
  unfold lastN
  split <;> decide
theorem padL_lt {xs : List Nat} (h : ∀ x ∈ xs, x < 256) (k : Nat) : ∀ x ∈ padL xs k, x < 256 := by
  intro x hx
  unfold padL at hx
  simp only [List.mem_append, List.mem_cons, List.mem_replicate] at hx
  rcases hx with hx | rfl | ⟨_, rfl⟩
  · exact h x hx
  · decide
  · decide
theorem padS_lt {xs : List Nat} (h : ∀ x ∈ xs, x < 256) : ∀ x ∈ padS xs, x < 256 := by
  intro x hx
  rcases List.mem_or_eq_of_mem_set hx with hx | rfl
  · exact padL_lt h _ x hx
  · unfold lastN; split <;> decide
theorem owns_some {w : World} {base : Nat} {e : TypeId} {v : Value} {n : Nat} {xs : List Value} (h : w.ownsRow base e 1 v n xs) (h0 : 0 < n) : ∃ g cap, v = .slice (some ⟨g, 0, none⟩) n cap ∧ base ≤ g ∧ g < w.heap.size ∧ n ≤ cap ∧ ∀ j u, xs[j]? = some u → w.cell? ⟨g, j, none⟩ = some u := by
  rcases h.2 with ⟨rfl, rfl⟩ | ⟨g, cap, cur, rfl, hbg, hg, hnc, hcm, hcs, htake⟩
  · omega
  · refine ⟨g, cap, rfl, hbg, (Array.getElem?_eq_some_iff.1 hg).1, hnc, fun j u hu => ?_⟩
    have := h.cells (g := g) rfl j u hu
    rwa [show (⟨g, 0, none⟩ : Addr).add j = ⟨g, j, none⟩ by rw [Addr.add_lit, Nat.zero_add]] at this
theorem owns_free {w : World} {base : Nat} {e : TypeId} {g n cap : Nat} {xs : List Value} (h : w.ownsRow base e 1 (.slice (some ⟨g, 0, none⟩) n cap) n xs) (j : Nat) : w.frozen? ⟨g, j, none⟩ = false := by
  rcases h.2 with ⟨hv, _⟩ | ⟨g', cap', cur, hv, hbg, hg, hnc, hcm, hcs, htake⟩
  · cases hv
  · cases hv
    exact Blk.free (c := cur) (t := e) hg j
theorem owns_set {w : World} {base : Nat} {e : TypeId} {g n cap : Nat} {xs : List Value} (h : w.ownsRow base e 1 (.slice (some ⟨g, 0, none⟩) n cap) n xs) {j : Nat} (hj : j < n) (u : Value) :
    (w.setCell ⟨g, j, none⟩ u).ownsRow base e 1 (.slice (some ⟨g, 0, none⟩) n cap) n (xs.set j u) := by
  rcases h.2 with ⟨hv, _⟩ | ⟨g', cap', cur, hv, hbg, hg, hnc, hcm, hcs, htake⟩
  · cases hv
  · cases hv
    refine ⟨by rw [List.length_set]; exact h.1, .inr ⟨g, cap, cur.setIfInBounds j u, rfl, hbg, ?_, hnc, hcm, by simpa using hcs, ?_⟩⟩
    · exact Blk.set (c := cur) (t := e) hg j u
    · rw [← htake, Array.toList_setIfInBounds, List.take_set]
theorem owns_app1 {P : Program} {w : World} {ops : Array Oper} {rest : List Oper} {o : Oper} {a : Act} {Q : Exit → Act → World → Prop} (hgd : o.guard = none) (s x : Operand) (t : TypeId)
    (ho : o.op = .call { callee := .builtin .append, args := #[s, x], argTypes := #[t, t] }) (base : Nat) (e : TypeId) (i : TypeInfo) (z : Value) (ht : P.underlying t = some (.slice e)) (hi : P.info? e = some i) (hz : i.zero = some z) (hsize : i.size = 1) (hby : i.bytes = 1) (hzs : z.cells.size = 1)
    (v : Value) (n : Nat) (xs : List Value) (hs : a.eval s = v) (hown : w.ownsRow base e 1 v n xs) (b : Nat) (u : Value) (hx : a.eval x = .slice (some ⟨b, 0, none⟩) 1 1) (hc : w.cell? ⟨b, 0, none⟩ = some u) (h1 : u.oneCell' = true) (hn : n ≤ 1000000) (hbase : base ≤ w.heap.size)
    (h : ∀ v' w', w'.ownsRow base e 1 v' (n + 1) (xs ++ [u]) → w.grownBy w' v.ownBlock → wpList P ops Q rest (a.put o.dst v') w') : wpList P ops Q (o :: rest) a w :=
  wpList_append_own w hgd s x t ho base e i z 1 1 ht hi hz hsize hby hzs (by decide) v n xs hs hown ⟨b, 0, none⟩ 1 1 [u] hx rfl (fun j u' hu => by
    cases j with
    | zero => cases hu; exact hc
    | succ j => cases hu) (fun u' hu => by rw [List.mem_singleton] at hu; subst hu; exact h1) (by simp only [maxLen]; omega) (by omega) hbase fun v' w' h2 h3 _ => h v' w' h2 h3
theorem eql_nilB (A : Option Addr) (n c : Nat) (w : World) : (binOp .eql 22 (.slice A n c) (.slice none 0 0)).run Try.prog w = .ok (.bool A.isNone) w := by
  simp only [binOp]
  simp [run_equal_slice_nil w 22 5 A n c under_b]
set_option maxHeartbeats 1000000 in
set_option maxRecDepth 20000 in
theorem cloneB_any (A : Option Addr) (xs : List Nat) (cap : Nat) (w : World) (hS : SlAt w A (natC xs)) (hcap : xs.length ≤ cap) (hn : xs.length ≤ 100000) (hnil : A = none → xs = []) :
    Calls Try.prog 21 #[.slice A xs.length cap] w fun e w' => ∃ v, e = .returned v ∧ w'.ownsRow w.heap.size 5 1 v xs.length (natC xs) ∧ Below w.heap.size w w' := by
  obtain ⟨i0, hi, hz0, hz1, hz2⟩ := info_parts tinfo_b
  rcases A with _ | A
  · have h1 := hnil rfl
    subst h1
    simp only [List.length_nil]
    have hq := eql_nilB none 0 cap
    go_enter Try.func21, Try.ntmps21
    go_wp2_with fail
    go_ret
    exact ⟨_, rfl, World.ownsRow_nil w w.heap.size 5 1, Below.refl _ _⟩
  · have HS := Lib.hid (hS.grow (World.below_alloc w (.cells #[] 5)))
    have hown : (w.alloc (.cells #[] 5)).ownsRow w.heap.size 5 1 (.slice (some ⟨w.heap.size, 0, none⟩) 0 0) 0 [] := World.ownsRow_made w #[] 0 (Nat.le_refl _) (Nat.zero_le _) rfl
    have HO := Lib.hid hown
    have HL := Lib.hid (natC_len xs)
    have H1 := Lib.hid (natC_one xs)
    have hq := eql_nilB (some A) xs.length cap
    clear hS hnil hown
    generalize hln : xs.length = n at *
    go_enter Try.func21, Try.ntmps21
    go_wp2_with (first | (at_builtin; refine wpList_append_own _ rfl _ _ 22 rfl w.heap.size 5 i0 _ 1 1 under_b hi hz0 hz1 hz2 rfl (by decide) _ _ _ rfl HO.out A n cap (natC xs) rfl (by rw [HL.out, Nat.mul_one]) (fun j u hu => ?cells) H1.out (by simp only [maxLen]; omega) (by omega) (by simp) ?_))
    case cells =>
      obtain ⟨b', off', hA, _, hcs⟩ := HS.out.cell hu
      cases hA
      rw [Addr.add_lit]
      exact hcs j u hu
    intro v w3 hown3 hg3 _
    have hb3 : Below w.heap.size w w3 := (World.below_alloc w (.cells #[] 5)).grown hg3 (by simp) (fun k e => by cases e; exact Nat.le_refl _)
    try rw [Nat.zero_add] at hown3
    try rw [List.nil_append] at hown3
    have HO3 := Lib.hid hown3
    have HB := Lib.hid hb3
    clear hown3 hg3 hb3
    go_wp2_with fail
    go_ret
    exact ⟨_, rfl, HO3.out, HB.out⟩
end Go.Proofs.Ytojmifniidddpaa
