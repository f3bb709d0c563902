/- Walks of package store: the rules, the first that is so, the label of three. -/
import Derived.Test.YtiglfbnicihpmaaStoreB
import Derived.Laws.EntriesVeiled
set_option linter.unusedVariables false
set_option linter.unusedSimpArgs false
namespace Go.Proofs.Ytiglfbnicihpmaa
open Go.RowKit

def rulesV (b1 b2 : Nat) : List (Value × Value) := [(.func (.func 37) #[] #[], .func (.func 36) #[] #[.pointer (some ⟨b1, 0, none⟩)]), (.func (.func 39) #[] #[], .func (.func 36) #[] #[.pointer (some ⟨b2, 0, none⟩)]), (.func (.func 41) #[] #[], .func (.func 42) #[] #[]), (.func (.func 43) #[] #[], .func (.func 44) #[] #[])]
def pairV (v : Value × Value) : List Value := [v.1, v.2]
def toldC (n : Int) : List Value := [.int .u64 n, .int .u64 0, .int .u64 0]
set_option maxHeartbeats 1000000 in
set_option maxRecDepth 20000 in
theorem rules_any (w : World) :
    Calls Try.prog 18 #[] w fun e w' => ∃ b1 b2, e = .returned (.agg #[.func (.func 37) #[] #[], .func (.func 36) #[] #[.pointer (some ⟨b1, 0, none⟩)], .func (.func 39) #[] #[], .func (.func 36) #[] #[.pointer (some ⟨b2, 0, none⟩)], .func (.func 41) #[] #[], .func (.func 42) #[] #[], .func (.func 43) #[] #[], .func (.func 44) #[] #[]]) ∧ SlAt w' (some ⟨b1, 0, none⟩) (toldC 100) ∧ SlAt w' (some ⟨b2, 0, none⟩) (toldC 20000) ∧ Below w.heap.size w w' := by
  go_enter Try.func18, Try.ntmps18
  go_wp2_with fail
  refine (flat_any 100 _).mono ?_
  rintro e w' ⟨rfl, rfl⟩
  go_wp2_with fail
  refine (flat_any 20000 _).mono ?_
  rintro e w' ⟨rfl, rfl⟩
  go_wp2_with fail
  refine bodyPost_ret (v := .agg #[.func (.func 37) #[] #[], .func (.func 36) #[] #[.pointer (some ⟨(w.heap.size + 1), 0, none⟩)], .func (.func 39) #[] #[], .func (.func 36) #[] #[.pointer (some ⟨(w.heap.size + 2), 0, none⟩)], .func (.func 41) #[] #[], .func (.func 42) #[] #[], .func (.func 43) #[] #[], .func (.func 44) #[] #[]]) (by simp [results, Try.results18, go_sem]) rfl ?_
  refine ⟨_, _, rfl, SlAt.of_blk (Own.get (Own.new (Own.new (Own.new (Own.nil w) w.heap.size rfl) (w.heap.size + 1) (by simp)) (w.heap.size + 2) (by simp)) 1 rfl), SlAt.of_blk (Own.get (Own.new (Own.new (Own.new (Own.nil w) w.heap.size rfl) (w.heap.size + 1) (by simp)) (w.heap.size + 2) (by simp)) 0 rfl), by go_grown⟩
theorem toldS_any (b : Nat) (n : Int) (x y z : Vl) (w : World) (hB : SlAt w (some ⟨b, 0, none⟩) (toldC n)) :
    Calls Try.prog 36 #[.agg #[.int .u64 x.a, .int .u64 x.b, .int .u64 x.c, .int .u64 x.d, .int .u64 x.l, .int .u64 y.a, .int .u64 y.b, .int .u64 y.c, .int .u64 y.d, .int .u64 y.l, .int .u64 z.a, .int .u64 z.b, .int .u64 z.c, .int .u64 z.d, .int .u64 z.l], .pointer (some ⟨b, 0, none⟩)] w fun e w' => e = .returned (.agg #[.int .u64 n, .int .u64 0, .int .u64 0]) ∧ Below w.heap.size w w' := by
  rcases hB with hB | ⟨b', off, hA, hl, hc⟩
  · cases hB
  obtain ⟨rfl, rfl⟩ : b = b' ∧ 0 = off := by simpa using hA
  have h0 := hc 0 _ rfl
  have h1 := hc 1 _ rfl
  have h2 := hc 2 _ rfl
  simp only [Nat.zero_add] at h0 h1 h2
  clear hc hA
  go_enter Try.func36, Try.ntmps36
  go_wp2_with fail
  refine bodyPost_ret (v := .agg #[.int .u64 n, .int .u64 0, .int .u64 0]) (by simp [results, Try.results36, go_sem, *]) rfl ?_
  exact ⟨rfl, by go_grown⟩

/-- The first of the rules that is so. -/
theorem index_any (f : FuncId) (oc : Array Value) (vs : List (Value × Value)) (A : Option Addr) (cap : Nat) (Bt : Nat → Bool) (i0 : Nat) (w : World) (hS : SlAt w A (vs.flatMap pairV)) (hn : vs.length = 4) (hcap : 4 ≤ cap)
    (hent : Enters Try.prog f) (hf : ∀ k v, vs[k]? = some v → ∀ V, Below w.heap.size w V → Calls Try.prog f (#[.agg #[v.1, v.2]] ++ oc) V fun e w' => e = .returned (.bool (Bt k)) ∧ Below V.heap.size V w')
    (hi : ∀ j, j < i0 → Bt j = false) (h0 : i0 < 4) (hB : Bt i0 = true) :
    Calls Try.prog 45 #[.slice A 4 cap, .func (.func f) #[] oc] w fun e w' => e = .returned (.int .i64 i0) ∧ Below w.heap.size w w' := by
  have HF := Lib.hid hf
  have HX := Lib.hid hS
  have HI := Lib.hid hi
  have HT := Lib.hid hB
  have HN := Lib.hid hn
  clear hf hS hi hB hn
  have hent' : ∀ (args : Array Value) (W : World), (callFunc f args).run Try.prog W = .ok (.enter f args) W := fun args W => hent args W
  clear hent
  go_enter Try.func45, Try.ntmps45
  go_wp2_with fail
  go_loopw [8] (fun i wr => ∃ k : Nat, k ≤ i0 ∧ i = .int .i64 k ∧ Below w.heap.size w wr) (fun i _ => 4 - (intOf i).toNat)
  case atStart => exact ⟨0, Nat.zero_le _, rfl, Below.refl _ _⟩
  case round =>
    obtain ⟨k, hk, rfl, hb⟩ := hrel
    obtain ⟨x, hx⟩ : ∃ x, vs[k]? = some x := ⟨vs[k]'(by rw [HN.out]; omega), by simp⟩
    obtain ⟨b, off, rfl, hbl, hcell⟩ := HX.out.cell (flat_at (f := pairV) (n := 2) (fun _ => rfl) vs k x hx 0 (by omega))
    have hc0 : wr.cell? ⟨b, off + k * 2, none⟩ = some x.1 := (hb.cell (p := ⟨b, off + k * 2, none⟩) hbl).trans (by have := hcell (k * 2) _ (flat_at (f := pairV) (n := 2) (fun _ => rfl) vs k x hx 0 (by omega)); simpa [Nat.add_assoc] using this)
    have hc1 : wr.cell? ⟨b, off + k * 2 + 1, none⟩ = some x.2 := (hb.cell (p := ⟨b, off + k * 2 + 1, none⟩) hbl).trans (by have := hcell (k * 2 + 1) _ (flat_at (f := pairV) (n := 2) (fun _ => rfl) vs k x hx 1 (by omega)); simpa [Nat.add_assoc] using this)
    clear hcell
    have hk4 : k < 4 := by omega
    have HC := Lib.hid (HF.out k x hx)
    by_cases hlt : k < i0
    · rw [HI.out k hlt] at HC
      go_wp2_with fail
      refine (HC.out _ (by first | assumption | go_grown)).mono ?_
      rintro e w2 ⟨rfl, hb2⟩
      go_wp2_with fail
      exact ⟨⟨k + 1, by omega, by go_num, hb.trans (hb2.mono hb.size)⟩, by simp [intOf]; omega⟩
    · obtain rfl : k = i0 := by omega
      rw [HT.out] at HC
      go_wp2_with fail
      refine (HC.out _ (by first | assumption | go_grown)).mono ?_
      rintro e w2 ⟨rfl, hb2⟩
      go_wp2_with fail
      go_ret
      exact ⟨rfl, hb.trans (hb2.mono hb.size)⟩

def isStruct : Option TypeDesc → Bool
  | some (.struct _) => true
  | _ => false
theorem of_isStruct : ∀ {u : Option TypeDesc}, isStruct u = true → ∃ fs, u = some (.struct fs)
  | some (.struct fs), _ => ⟨fs, rfl⟩
theorem u55 : ∃ fs, Try.prog.underlying 55 = some (.struct fs) := of_isStruct (by kernel_rfl)
theorem i55 : (Try.prog.info? 55).map (·.size) = some 15 := by kernel_rfl
set_option maxHeartbeats 1000000 in
set_option maxRecDepth 20000 in
theorem change1_any (x y z : Vl) (f : FuncId) (oc : Array Value) (fs : Value) (c : Nat) (B : Bool) (w : World) (hc : Blk w c #[.int .u64 x.a, .int .u64 x.b, .int .u64 x.c, .int .u64 x.d, .int .u64 x.l, .int .u64 y.a, .int .u64 y.b, .int .u64 y.c, .int .u64 y.d, .int .u64 y.l, .int .u64 z.a, .int .u64 z.b, .int .u64 z.c, .int .u64 z.d, .int .u64 z.l] 55)
    (hent : Enters Try.prog f) (hf : ∀ V, Below w.heap.size w V → Calls Try.prog f (#[.agg #[.int .u64 x.a, .int .u64 x.b, .int .u64 x.c, .int .u64 x.d, .int .u64 x.l, .int .u64 y.a, .int .u64 y.b, .int .u64 y.c, .int .u64 y.d, .int .u64 y.l, .int .u64 z.a, .int .u64 z.b, .int .u64 z.c, .int .u64 z.d, .int .u64 z.l]] ++ oc) V fun e w' => e = .returned (.bool B) ∧ Below V.heap.size V w') :
    Calls Try.prog 20 #[.agg #[.func (.func f) #[] oc, fs], .pointer (some ⟨c, 0, none⟩)] w fun e w' => e = .returned (.bool B) ∧ Below w.heap.size w w' := by
  obtain ⟨fs', U55⟩ := u55
  have I55 := i55
  have HF := Lib.hid hf
  clear hf
  have HO := Own.cons hc (Own.nil w)
  have HL := hc.lt
  have HC := Lib.hid hc
  clear hc
  have hent' : ∀ (args : Array Value) (W : World), (callFunc f args).run Try.prog W = .ok (.enter f args) W := fun args W => hent args W
  clear hent
  go_enter Try.func20, Try.ntmps20
  go_wp2_with (first | (refine wpList_load_row rfl 55 (.tmp 1) (by with_reducible rfl) _ rfl _ _ (0, 0) _ (Own.get (Own.new HO w.heap.size rfl) 1 rfl) U55 rfl I55 ?_))
  refine (HF.out _ (by go_grown)).mono ?_
  rintro e w' ⟨rfl, hb⟩
  go_wp2_with fail
  go_ret
  exact ⟨rfl, Below.trans (by go_grown) (Below.mono hb (by first | omega | (simp; done) | (simp; omega)))⟩
end Go.Proofs.Ytiglfbnicihpmaa
