/- Walks of package store: which rule is so; what a change costs, in one law. -/
import Derived.Test.YtiglfbnicihpmaaStoreEl
import Derived.Test.YtiglfbnicihpmaaStoreG
set_option linter.unusedVariables false
set_option linter.unusedSimpArgs false
namespace Go.Proofs.Ytiglfbnicihpmaa
open Go.RowKit
def btR (x y z : Vl) : Nat → Bool
  | 0 => sameW z y
  | 1 => sameW y x && noW x
  | 2 => sameW y x
  | _ => true
theorem fresh_any (x y z : Vl) (w : World) : Calls Try.prog 42 #[.agg #[.int .u64 x.a, .int .u64 x.b, .int .u64 x.c, .int .u64 x.d, .int .u64 x.l, .int .u64 y.a, .int .u64 y.b, .int .u64 y.c, .int .u64 y.d, .int .u64 y.l, .int .u64 z.a, .int .u64 z.b, .int .u64 z.c, .int .u64 z.d, .int .u64 z.l]] w fun e w' => e = .returned (.agg #[.int .u64 2900, .int .u64 (if noW z then 4800 else 0), .int .u64 0]) ∧ Below w.heap.size w w' := by
  rcases h : noW z with _ | _
  · exact fresh_0 x y z w h
  · exact fresh_1 x y z w h

theorem again_any (x y z : Vl) (w : World) : Calls Try.prog 44 #[.agg #[.int .u64 x.a, .int .u64 x.b, .int .u64 x.c, .int .u64 x.d, .int .u64 x.l, .int .u64 y.a, .int .u64 y.b, .int .u64 y.c, .int .u64 y.d, .int .u64 y.l, .int .u64 z.a, .int .u64 z.b, .int .u64 z.c, .int .u64 z.d, .int .u64 z.l]] w fun e w' => e = .returned (.agg #[.int .u64 100, .int .u64 ((if !noW x && noW z then 4800 else 0) + (if sameW z x then (if noW x then 19900 else 2800) else 0)), .int .u64 (if !noW x && noW y then 4800 else 0)]) ∧ Below w.heap.size w w' := by
  rcases hr : noW x with _ | _
  · rcases ht : noW y with _ | _ <;> rcases hs : noW z with _ | _ <;> rcases hu : sameW z x with _ | _
    · exact again_9 x y z w hr ht hs hu
    · exact again_8 x y z w hr ht hs hu
    · exact again_7 x y z w hr ht hs hu
    · exact again_6 x y z w hr ht hs hu
    · exact again_5 x y z w hr ht hs hu
    · exact again_4 x y z w hr ht hs hu
    · exact again_3 x y z w hr ht hs hu
    · exact again_2 x y z w hr ht hs hu
  · rcases hu : sameW z x with _ | _
    · exact again_1 x y z w hr hu
    · exact again_0 x y z w hr hu

theorem is_any (x y z : Vl) (c b1 b2 : Nat) : ∀ (k : Nat) (v : Value × Value), (rulesV b1 b2)[k]? = some v → ∀ V : World, Blk V c #[.int .u64 x.a, .int .u64 x.b, .int .u64 x.c, .int .u64 x.d, .int .u64 x.l, .int .u64 y.a, .int .u64 y.b, .int .u64 y.c, .int .u64 y.d, .int .u64 y.l, .int .u64 z.a, .int .u64 z.b, .int .u64 z.c, .int .u64 z.d, .int .u64 z.l] 55 →
    Calls Try.prog 20 (#[.agg #[v.1, v.2]] ++ #[.pointer (some ⟨c, 0, none⟩)]) V fun e w' => e = .returned (.bool (btR x y z k)) ∧ Below V.heap.size V w' := by
  intro k v hv V hc
  match k, hv with
  | 0, hv => cases hv; exact change1_any x y z 37 #[] _ c _ V hc (enters_of Try.func37 (by kernel_rfl) rfl) (fun W hW => if1_any x y z W)
  | 1, hv => cases hv; exact change1_any x y z 39 #[] _ c _ V hc (enters_of Try.func39 (by kernel_rfl) rfl) (fun W hW => if2_any x y z W)
  | 2, hv => cases hv; exact change1_any x y z 41 #[] _ c _ V hc (enters_of Try.func41 (by kernel_rfl) rfl) (fun W hW => if3_any x y z W)
  | 3, hv => cases hv; exact change1_any x y z 43 #[] _ c _ V hc (enters_of Try.func43 (by kernel_rfl) rfl) (fun W hW => if4_any x y z W)
  | k + 4, hv => exact absurd hv (by simp [rulesV])
theorem says_of (x y z : Vl) (i0 : Nat) (g : FuncId) (gc : Nat → Nat → Array Value) (fi : Value) (n m l : Int) (hi : ∀ j, j < i0 → btR x y z j = false) (h0 : i0 < 4) (hB : btR x y z i0 = true)
    (hv : ∀ b1 b2, (rulesV b1 b2)[i0]? = some (fi, .func (.func g) #[] (gc b1 b2))) (h1 : fi.oneCell' = true) (hent : Enters Try.prog g)
    (hg : ∀ (V : World) (b1 b2 : Nat), SlAt V (some ⟨b1, 0, none⟩) (toldC 100) → SlAt V (some ⟨b2, 0, none⟩) (toldC 20000) →
    Calls Try.prog g (#[.agg #[.int .u64 x.a, .int .u64 x.b, .int .u64 x.c, .int .u64 x.d, .int .u64 x.l, .int .u64 y.a, .int .u64 y.b, .int .u64 y.c, .int .u64 y.d, .int .u64 y.l, .int .u64 z.a, .int .u64 z.b, .int .u64 z.c, .int .u64 z.d, .int .u64 z.l]] ++ gc b1 b2) V fun e w' => e = .returned (.agg #[.int .u64 n, .int .u64 m, .int .u64 l]) ∧ Below V.heap.size V w') : Says x y z fi g gc n m l :=
  ⟨hent, fun V b1 b2 b c hb hc => found_any _ _ (rulesV b1 b2) _ 4 (btR x y z) i0 _ V hb rfl (Nat.le_refl _) (enters_of Try.func20 (by kernel_rfl) rfl) (fun k v hk W hW => is_any x y z c b1 b2 k v hk W (hc.grow hW)) hi h0 hB (hv b1 b2) h1 rfl, hg⟩
theorem says_any (x y z : Vl) : ∃ fi g gc, Says x y z fi g gc (exC x y z) (exM x y z) (exL x y z) := by
  rcases hp : sameW z y with _ | _
  · rcases hq : sameW y x with _ | _
    · refine ⟨_, 44, fun _ _ => #[], says_of x y z 3 _ _ _ _ _ _ (fun j hj => ?_) (by omega) rfl (fun _ _ => rfl) rfl (enters_of Try.func44 (by kernel_rfl) rfl) (fun V _ _ _ _ => ?_)⟩
      · have : j = 0 ∨ j = 1 ∨ j = 2 := by omega
        rcases this with rfl | rfl | rfl <;> simp [btR, hp, hq]
      · have := again_any x y z V
        simp only [exC, exM, exL, hp, hq, Bool.false_and, Bool.false_eq_true, if_false]
        exact this
    · rcases hr : noW x with _ | _
      · refine ⟨_, 42, fun _ _ => #[], says_of x y z 2 _ _ _ _ _ _ (fun j hj => ?_) (by omega) hq (fun _ _ => rfl) rfl (enters_of Try.func42 (by kernel_rfl) rfl) (fun V _ _ _ _ => ?_)⟩
        · have : j = 0 ∨ j = 1 := by omega
          rcases this with rfl | rfl <;> simp [btR, hp, hq, hr]
        · have := fresh_any x y z V
          simp only [exC, exM, exL, hp, hq, hr, Bool.and_false, Bool.false_eq_true, if_false, if_true]
          exact this
      · refine ⟨_, 36, fun _ b2 => #[.pointer (some ⟨b2, 0, none⟩)], says_of x y z 1 _ _ _ _ _ _ (fun j hj => ?_) (by omega) (by simp [btR, hq, hr]) (fun _ _ => rfl) rfl (enters_of Try.func36 (by kernel_rfl) rfl) (fun V _ b2 _ h2 => ?_)⟩
        · have : j = 0 := by omega
          subst this; simp [btR, hp]
        · have := toldS_any b2 20000 x y z V h2
          simp only [exC, exM, exL, hp, hq, hr, Bool.and_self, Bool.false_eq_true, if_false, if_true]
          exact this
  · refine ⟨_, 36, fun b1 _ => #[.pointer (some ⟨b1, 0, none⟩)], says_of x y z 0 _ _ _ _ _ _ (fun j hj => by omega) (by omega) hp (fun _ _ => rfl) rfl (enters_of Try.func36 (by kernel_rfl) rfl) (fun V b1 _ h1 _ => ?_)⟩
    have := toldS_any b1 100 x y z V h1
    simp only [exC, exM, exL, hp, if_true]
    exact this
def extraI (cold : Bool) : Int := if cold then 2100 else 0
/-- A bound of a cost that is exact without a label. -/
def bdI (n lo a : Int) : Int := if a = 0 then n else lo
def costV (n lo hi a : Int) : Value := .agg #[.int .u64 n, .int .u64 (bdI n lo a), .int .u64 (bdI n hi a), .int .u64 a]
theorem change_any (cold : Bool) (x y z : Vl) (w : World) :
    Calls Try.prog 6 #[.bool cold, .agg #[.int .u64 x.a, .int .u64 x.b, .int .u64 x.c, .int .u64 x.d, .int .u64 x.l], .agg #[.int .u64 y.a, .int .u64 y.b, .int .u64 y.c, .int .u64 y.d, .int .u64 y.l], .agg #[.int .u64 z.a, .int .u64 z.b, .int .u64 z.c, .int .u64 z.d, .int .u64 z.l]] w fun e w' => e = .returned (.tuple #[costV (exC x y z + extraI cold) (100 + extraI cold) (20000 + extraI cold) (lab3 x y z), costV (exM x y z) 0 19900 (lab3 x y z), costV (exL x y z) 0 4800 (lab3 x y z)]) ∧ Below w.heap.size w w' := by
  obtain ⟨fi, g, gc, hs⟩ := says_any x y z
  have h1 := exC_bd x y z
  have hE : 0 ≤ extraI cold ∧ extraI cold ≤ 2100 := by unfold extraI; split <;> omega
  unfold costV bdI
  by_cases h : lab3 x y z = 0
  · simp only [h, if_true]
    exact change_z cold x y z fi g gc _ _ _ (extraI cold) _ w hs (fun V => either_any cold 0 2100 V) hE.1 hE.2 h1.1 h1.2 (fun V => lab3_any x y z V) h
  · simp only [h, if_false]
    exact change_l cold x y z fi g gc _ _ _ (extraI cold) _ w hs (fun V => either_any cold 0 2100 V) hE.1 hE.2 h1.1 h1.2 (fun V => lab3_any x y z V) h
end Go.Proofs.Ytiglfbnicihpmaa
