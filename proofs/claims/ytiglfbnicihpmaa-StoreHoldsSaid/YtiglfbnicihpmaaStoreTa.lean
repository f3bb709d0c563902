/- Walks: slices.All over values, as a range over a function. -/
import Derived.Test.YtiglfbnicihpmaaStoreR
import Derived.Test.YtiglfbnicihpmaaRngB
import Derived.OwnWalkIn
import Derived.TacticsInMore
import Derived.LoopNIn
import Derived.LoopIn
set_option linter.unusedVariables false
set_option linter.unusedSimpArgs false
namespace Go.Proofs.Ytiglfbnicihpmaa
open Go.RowKit
attribute [local go_sem] Oper.semAt_some
def Vl.cells (x : Vl) : List Value := [.int .u64 x.a, .int .u64 x.b, .int .u64 x.c, .int .u64 x.d, .int .u64 x.l]

abbrev valsEnc : Nat → Vl → Array Value := fun k x => #[.int .i64 (k : Nat), .agg #[.int .u64 x.a, .int .u64 x.b, .int .u64 x.c, .int .u64 x.d, .int .u64 x.l]]
def valsRel (J : Nat → World → Prop) (n : Nat) (S : Nat → Prop) (w0 : World) (i : Value) (wr : World) : Prop := ∃ k : Nat, k ≤ n ∧ i = .int .i64 k ∧ J k wr ∧ Keep S w0 wr
set_option maxHeartbeats 4000000 in
set_option maxRecDepth 20000 in
theorem vals1_seq (b : Nat) (A : Option Addr) (xs : List (Vl)) (cap : Nat) (w0 : World) (S : Nat → Prop) (hc : w0.cell? ⟨b, 0, none⟩ = some (.slice A xs.length cap)) (hS : SlAt w0 A (xs.flatMap Vl.cells)) (hcap : xs.length ≤ cap) (hn : xs.length ≤ 100000) (hb : S b) (hA : xs.flatMap Vl.cells ≠ [] → ∀ b' off, A = some ⟨b', off, none⟩ → S b') :
    Seq Try.prog 54 #[.pointer (some ⟨b, 0, none⟩)] valsEnc xs S w0 := by
  intro l J Jx W hW hJ hJx hY h0
  have hcW : W.cell? ⟨b, 0, none⟩ = some (.slice A xs.length cap) := hW.cell hc hb
  have HS := Lib.hid hS
  have HY := Lib.hid hY
  have HJ := Lib.hid hJ
  have HX := Lib.hid hJx
  clear hY hJ hJx hS
  generalize hln : xs.length = n at *
  refine (callsIn_wide (n := 0)).1 (callsIn_of_wp Try.func54 rfl trivial ?_ rfl)
  simp only [Try.ntmps54, List.size_toArray, List.length_cons, List.length_nil, Nat.reduceAdd, Nat.reduceSub, Array.replicate_succ, Array.replicate_zero, List.push_toArray, List.append_toArray, List.nil_append, List.cons_append]
  gi_wp2
  gi_loopw [7] (fun i wr => valsRel J n S w0 i wr) (fun i _ => n - (intOf i).toNat)
  case atStart => exact ⟨0, Nat.zero_le _, rfl, h0, hW⟩
  case round =>
    obtain ⟨k, hk, rfl, hj, hb⟩ := hrel
    by_cases hlt' : k < n
    · obtain ⟨x, hx⟩ : ∃ x, xs[k]? = some x := ⟨xs[k], by simp [hln, hlt']⟩
      have hne : (xs.flatMap Vl.cells)[k * 5 + 0]? = some (.int .u64 x.a) := (by rw [flat_at (f := Vl.cells) (n := 5) (fun _ => rfl) xs k x hx 0 (by omega)]; rfl)
      obtain ⟨b', off, rfl, hbl, hcell⟩ := HS.out.cell hne
      have hAb : S b' := hA (by intro h; rw [h] at hne; simp at hne) _ _ rfl
      have hc0 : wr.cell? ⟨b', off + k * 5, none⟩ = some (.int .u64 x.a) := hb.cell (by have := hcell (k * 5 + 0) _ (by rw [flat_at (f := Vl.cells) (n := 5) (fun _ => rfl) xs k x hx 0 (by omega)]; rfl); simpa [Nat.add_assoc] using this) hAb
      have hc1 : wr.cell? ⟨b', off + k * 5 + 1, none⟩ = some (.int .u64 x.b) := hb.cell (by have := hcell (k * 5 + 1) _ (by rw [flat_at (f := Vl.cells) (n := 5) (fun _ => rfl) xs k x hx 1 (by omega)]; rfl); simpa [Nat.add_assoc] using this) hAb
      have hc2 : wr.cell? ⟨b', off + k * 5 + 2, none⟩ = some (.int .u64 x.c) := hb.cell (by have := hcell (k * 5 + 2) _ (by rw [flat_at (f := Vl.cells) (n := 5) (fun _ => rfl) xs k x hx 2 (by omega)]; rfl); simpa [Nat.add_assoc] using this) hAb
      have hc3 : wr.cell? ⟨b', off + k * 5 + 3, none⟩ = some (.int .u64 x.d) := hb.cell (by have := hcell (k * 5 + 3) _ (by rw [flat_at (f := Vl.cells) (n := 5) (fun _ => rfl) xs k x hx 3 (by omega)]; rfl); simpa [Nat.add_assoc] using this) hAb
      have hc4 : wr.cell? ⟨b', off + k * 5 + 4, none⟩ = some (.int .u64 x.l) := hb.cell (by have := hcell (k * 5 + 4) _ (by rw [flat_at (f := Vl.cells) (n := 5) (fun _ => rfl) xs k x hx 4 (by omega)]; rfl); simpa [Nat.add_assoc] using this) hAb
      have hj1 : J k (wr.alloc (.cells #[.int .u64 x.a, .int .u64 x.b, .int .u64 x.c, .int .u64 x.d, .int .u64 x.l] 27)) := HJ.out.alloc _ hj
      obtain ⟨fn, tmps, assign, body, hy, hR⟩ := HY.out k x _ hx hj1
      have hb2 := hb.alloc (.cells #[.int .u64 x.a, .int .u64 x.b, .int .u64 x.c, .int .u64 x.d, .int .u64 x.l] 27)
      try simp only [valsEnc] at hy
      clear hcell hj hj1 hne
      gi_wp2
      refine ⟨rfl, ?_⟩
      refine hR.mono ?_
      rintro e W' (⟨rfl, hJ', hk'⟩ | ⟨rfl, hJx', _⟩)
      · have hb3 := hb2.trans (hk'.mono (fun _ h => .inl h))
        clear hk' hc0 hc1 hc2 hc3 hc4 hy hR hb hb2
        gi_wp2
        exact ⟨⟨k + 1, by omega, by go_num, hJ', hb3⟩, by simp [intOf]; omega⟩
      · clear hc0 hc1 hc2 hc3 hc4 hy hR hb hb2
        gi_wp2
        refine bodyPost_ret (results_none rfl _ _ _) rfl ?_
        exact ⟨⟨_, rfl⟩, .inr ⟨k + 1, by omega, hJx'⟩⟩
    · obtain rfl : k = n := by omega
      gi_wp2
      go_end0
      exact ⟨⟨_, rfl⟩, .inl hj⟩
theorem vals_any (A : Option Addr) (n cap : Nat) (w : World) : Calls Try.prog 33 #[.slice A n cap] w fun e w' => e = .returned (.func (.func 54) #[] #[.pointer (some ⟨w.heap.size, 0, none⟩)]) ∧ w' = w.alloc (.cells #[.slice A n cap] 38) := by
  go_enter Try.func33, Try.ntmps33
  go_wp2_with fail
  go_ret
  exact ⟨rfl, rfl⟩
end Go.Proofs.Ytiglfbnicihpmaa
