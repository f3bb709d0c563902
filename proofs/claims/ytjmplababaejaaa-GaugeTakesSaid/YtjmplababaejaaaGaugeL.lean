/- Walks of package gauge: Split. -/
import Derived.Test.YtjmplababaejaaaGaugeE
set_option linter.unusedVariables false
set_option linter.unusedSimpArgs false
namespace Go.Proofs.Ytjmplababaejaaa
open Go.RowKit

theorem each1_any (f : FuncId) (oc : Array Value) (b : Nat) (x y gx : Int) (w : World) (hc : w.cell? ⟨b, 0, none⟩ = some (.func (.func f) #[] oc)) (hent : Enters Try.prog f)
    (hf : Calls Try.prog f (#[.int .u64 x] ++ oc) w fun e w' => e = .returned (.int .u64 gx) ∧ w = w') :
    Calls Try.prog 55 #[.int .u64 x, .int .u64 y, .pointer (some ⟨b, 0, none⟩)] w fun e w' => e = .returned (.int .u64 gx) ∧ w = w' := by
  have HF := Lib.hid hf
  clear hf
  have hent' : ∀ (args : Array Value) (W : World), (callFunc f args).run Try.prog W = .ok (.enter f args) W := fun args W => hent args W
  clear hent
  go_enter Try.func55, Try.ntmps55
  go_wp2_with fail
  refine HF.out.mono ?_
  rintro e w1 ⟨rfl, rfl⟩
  go_wp2_with fail
  go_ret
  exact ⟨rfl, rfl⟩

theorem each_any (f : FuncId) (oc : Array Value) (g : Int → Int) (x0 x1 x2 : Int) (w : World) (hent : Enters Try.prog f)
    (hf : ∀ (x : Int) (W : World), (x = x0 ∨ x = x1 ∨ x = x2) → Below w.heap.size w W → Calls Try.prog f (#[.int .u64 x] ++ oc) W fun e w' => e = .returned (.int .u64 (g x)) ∧ W = w') :
    Calls Try.prog 34 #[.agg #[.int .u64 x0, .int .u64 x1, .int .u64 x2], .func (.func f) #[] oc] w
      fun e w' => e = .returned (.agg #[.int .u64 (g x0), .int .u64 (g x1), .int .u64 (g x2)]) ∧ Below w.heap.size w w' := by
  have hF : ∀ W : World, Below w.heap.size w W → W.cell? ⟨w.heap.size + 1, 0, none⟩ = some (.func (.func f) #[] oc) → Calls Try.prog 36 #[.agg #[.int .u64 x0, .int .u64 x1, .int .u64 x2], .agg #[.int .u64 x0, .int .u64 x1, .int .u64 x2], .func (.func 55) #[] #[.pointer (some ⟨w.heap.size + 1, 0, none⟩)]] W
      fun e w' => e = .returned (.agg #[.int .u64 (g x0), .int .u64 (g x1), .int .u64 (g x2)]) ∧ Below W.heap.size W w' := fun W hB hc =>
    folded_any 55 #[.pointer (some ⟨w.heap.size + 1, 0, none⟩)] (fun x _ => g x) x0 x1 x2 x0 x1 x2 W (enters_of Try.func55 (by kernel_rfl) rfl) (fun x y V hxy hb =>
      (each1_any f oc _ x y (g x) V (kept hb hc) hent (hf x V (by omega) (hB.trans (hb.mono hB.size)))).mono fun e w' ⟨he, hw⟩ => ⟨he, 0, hw.symm⟩)
  have HF := Lib.hid hF
  clear hF hf hent
  go_enter Try.func34, Try.ntmps34
  go_wp2_with fail
  refine (HF.out _ (by go_grown) (by go_cell)).mono ?_
  rintro e w1 ⟨rfl, hb⟩
  have b1 : Below w.heap.size w w1 := Below.trans (by go_grown) (Below.mono hb (by first | omega | (simp; done) | (simp; omega)))
  have z1 := Below.size hb
  try simp only [World.size_alloc, World.size_drew, World.size_setCell] at z1
  have k2 : w1.cell? ⟨w.heap.size + 1 + 1, 0, none⟩ = some (.int .u64 0) := kept hb (by first | go_cell | (with_reducible exact kept (World.below_alloc _ _) (by with_reducible assumption)))
  have f2 : w1.frozen? ⟨w.heap.size + 1 + 1, 0, none⟩ = false := keptf hb (by first | go_cell | (simp [go_sem]; done) | (with_reducible exact keptz (World.below_alloc _ _) (by with_reducible assumption) (by with_reducible assumption))) k2
  have k3 : w1.cell? ⟨w.heap.size + 1 + 1, 1, none⟩ = some (.int .u64 0) := kept hb (by first | go_cell | (with_reducible exact kept (World.below_alloc _ _) (by with_reducible assumption)))
  have f3 : w1.frozen? ⟨w.heap.size + 1 + 1, 1, none⟩ = false := keptf hb (by first | go_cell | (simp [go_sem]; done) | (with_reducible exact keptz (World.below_alloc _ _) (by with_reducible assumption) (by with_reducible assumption))) k3
  have k4 : w1.cell? ⟨w.heap.size + 1 + 1, 2, none⟩ = some (.int .u64 0) := kept hb (by first | go_cell | (with_reducible exact kept (World.below_alloc _ _) (by with_reducible assumption)))
  have f4 : w1.frozen? ⟨w.heap.size + 1 + 1, 2, none⟩ = false := keptf hb (by first | go_cell | (simp [go_sem]; done) | (with_reducible exact keptz (World.below_alloc _ _) (by with_reducible assumption) (by with_reducible assumption))) k4
  have x5 : Writ w1 (w.heap.size + 1 + 1) 3 := fun i hi => by
    rcases (by omega : i = 0 ∨ i = 1 ∨ i = 2) with rfl | rfl | rfl
    · exact ⟨⟨_, k2⟩, f2⟩
    · exact ⟨⟨_, k3⟩, f3⟩
    · exact ⟨⟨_, k4⟩, f4⟩
  clear hb
  go_wp2_with fail
  refine bodyPost_ret (v := .agg #[.int .u64 (g x0), .int .u64 (g x1), .int .u64 (g x2)]) (by simp [results, Try.results34, go_sem, *]) rfl ?_
  exact ⟨rfl, by go_grown⟩

/-- The first part of a number. -/
def pt (n b : Int) : Int := min (n - n / 64) b
theorem split1_any (b : Nat) (n m : Int) (w : World) (hn : 0 ≤ n ∧ n ≤ 1099511627776) (hc : w.cell? ⟨b, 0, none⟩ = some (.int .u64 m)) :
    Calls Try.prog 35 #[.int .u64 n, .pointer (some ⟨b, 0, none⟩)] w fun e w' => e = .returned (.int .u64 (pt n m)) ∧ w = w' := by
  have h0 := hn.1
  have h1 := hn.2
  have h2 : 0 ≤ n - n / 64 := by omega
  by_cases h : n - n / 64 ≤ m
  · have hm : pt n m = n - n / 64 := by unfold pt; omega
    have HM := Lib.hid hm
    clear hm
    go_enter Try.func35, Try.ntmps35
    go_wp2_with fail
    go_ret
    exact ⟨by rw [HM.out]; rfl, rfl⟩
  · have hm : pt n m = m := by unfold pt; omega
    have h' : m < n - n / 64 := by omega
    have HM := Lib.hid hm
    clear hm h
    go_enter Try.func35, Try.ntmps35
    go_wp2_with fail
    go_ret
    exact ⟨by rw [HM.out]; rfl, rfl⟩

theorem splitEach_any (l lo hi m : Int) (b : Nat) (w : World) (hc : w.cell? ⟨b, 0, none⟩ = some (.int .u64 m)) (h0 : 0 ≤ l ∧ l ≤ 1099511627776) (h1 : 0 ≤ lo ∧ lo ≤ 1099511627776) (h2 : 0 ≤ hi ∧ hi ≤ 1099511627776) :
    Calls Try.prog 34 #[.agg #[.int .u64 l, .int .u64 lo, .int .u64 hi], .func (.func 35) #[] #[.pointer (some ⟨b, 0, none⟩)]] w
      fun e w' => e = .returned (.agg #[.int .u64 (pt l m), .int .u64 (pt lo m), .int .u64 (pt hi m)]) ∧ Below w.heap.size w w' :=
  each_any 35 #[.pointer (some ⟨b, 0, none⟩)] (fun x => pt x m) l lo hi w (enters_of Try.func35 (by kernel_rfl) rfl)
    (fun x W hx hb => split1_any b x m W (by rcases hx with rfl | rfl | rfl <;> assumption) (kept hb hc))
theorem splitRest_any (l lo hi a b c : Int) (w : World) (h0 : 0 ≤ a ∧ a ≤ l ∧ l ≤ 1099511627776) (h1 : 0 ≤ b ∧ b ≤ lo ∧ lo ≤ 1099511627776) (h2 : 0 ≤ c ∧ c ≤ hi ∧ hi ≤ 1099511627776) :
    Calls Try.prog 36 #[.agg #[.int .u64 l, .int .u64 lo, .int .u64 hi], .agg #[.int .u64 a, .int .u64 b, .int .u64 c], .func (.func 37) #[] #[]] w
      fun e w' => e = .returned (.agg #[.int .u64 (l - a), .int .u64 (lo - b), .int .u64 (hi - c)]) ∧ Below w.heap.size w w' :=
  folded_any 37 #[] (fun x y => x - y) l lo hi a b c w (enters_of Try.func37 (by kernel_rfl) rfl)
    (fun x y W hxy _ => (split2_any x y W (by omega) (by omega) (by omega)).mono fun e w' ⟨he, hw⟩ => ⟨he, 0, hw.symm⟩)

theorem pt_bd {n m : Int} (hn : 0 ≤ n) (hm : 0 ≤ m) : 0 ≤ pt n m ∧ pt n m ≤ n := by unfold pt; omega
end Go.Proofs.Ytjmplababaejaaa
