/- Take, Split, Back and their references, whatever the gauges. -/
import Derived.Test.YtjmplababaejaaaGaugeM
import Derived.Test.YtjmplababaejaaaGaugeR
import Derived.Test.YtjmplababaejaaaGaugeS
import Derived.Test.YtjmplababaejaaaGaugeJ
import Derived.Test.YtjmplababaejaaaGaugeK
set_option linter.unusedVariables false
set_option linter.unusedSimpArgs false
namespace Go.Proofs.Ytjmplababaejaaa
open Go.RowKit

def bad2 : Value := .tuple #[.agg #[.int .u64 0, .int .u64 0, .int .u64 0, .int .u64 0], .agg #[.int .u64 0, .int .u64 0, .int .u64 0, .int .u64 0], .int .i64 2]
def splitVal (g : Kn) (m : Int) : Value :=
  if g.ok && decide (m ≤ 1099511627776) then .tuple #[.agg #[.int .u64 (pt g.l m), .int .u64 (pt g.lo m), .int .u64 (pt g.hi m), .int .u64 (madeA (pt g.lo m) (pt g.hi m) g.a)], .agg #[.int .u64 (g.l - pt g.l m), .int .u64 (g.lo - pt g.lo m), .int .u64 (g.hi - pt g.hi m), .int .u64 (madeA (g.lo - pt g.lo m) (g.hi - pt g.hi m) g.a)], .int .i64 0]
  else bad2
theorem split_any (g : Kn) (m : Int) (w : World) (hlo : 0 ≤ g.lo) (hm : 0 ≤ m) :
    Calls Try.prog 7 #[.agg #[.int .u64 g.l, .int .u64 g.lo, .int .u64 g.hi, .int .u64 g.a], .int .u64 m] w fun e w' => e = .returned (splitVal g m) ∧ Below w.heap.size w w' := by
  unfold splitVal
  cases hg : g.ok with
  | false => exact split_bad g m w hg
  | true =>
    by_cases hs : m ≤ 1099511627776
    · simp only [hs, decide_true, Bool.and_true, if_true]; exact split_in g m w hg hlo hm hs
    · simp only [hs, decide_false, Bool.and_false]; exact split_over g m w hg (by omega)
theorem refSplit_any (g : Kn) (m : Int) (w : World) (hlo : 0 ≤ g.lo) (hm : 0 ≤ m) :
    Calls Try.prog 8 #[.agg #[.int .u64 g.l, .int .u64 g.lo, .int .u64 g.hi, .int .u64 g.a], .int .u64 m] w fun e w' => e = .returned (splitVal g m) ∧ Below w.heap.size w w' := by
  unfold splitVal
  cases hg : g.ok with
  | false => exact refSplit_bad g m w hg
  | true =>
    by_cases hs : m ≤ 1099511627776
    · simp only [hs, decide_true, Bool.and_true, if_true]; exact refSplit_in g m w hg hlo hm hs
    · simp only [hs, decide_false, Bool.and_false]; exact refSplit_over g m w hg (by omega)

def backVal (g h : Kn) (m : Int) : Value :=
  if (g.ok && h.ok) && (decide (m ≤ 1099511627776) && decide (g.hi ≤ m)) then .tuple #[.agg #[.int .u64 (m - g.l), .int .u64 (m - g.hi), .int .u64 (m - g.lo), .int .u64 (madeA (m - g.hi) (m - g.lo) g.a)], .agg #[.int .u64 (min h.l ((m - g.l) / 5)), .int .u64 (min h.lo ((m - g.hi) / 5)), .int .u64 (min h.hi ((m - g.lo) / 5)), .int .u64 (madeA (min h.lo ((m - g.hi) / 5)) (min h.hi ((m - g.lo) / 5)) (orI g.a h.a))], .int .i64 0]
  else bad2
theorem back_any (g h : Kn) (m : Int) (w : World) (hlo : 0 ≤ g.lo) (hlo' : 0 ≤ h.lo) (hm0 : 0 ≤ m) (ha : U g.a) :
    Calls Try.prog 9 #[.int .u64 m, .agg #[.int .u64 g.l, .int .u64 g.lo, .int .u64 g.hi, .int .u64 g.a], .agg #[.int .u64 h.l, .int .u64 h.lo, .int .u64 h.hi, .int .u64 h.a]] w fun e w' => e = .returned (backVal g h m) ∧ Below w.heap.size w w' := by
  unfold backVal
  cases hg : (g.ok && h.ok) with
  | false => exact back_bad g h m w hg
  | true =>
    by_cases hs : m ≤ 1099511627776
    · by_cases hs2 : g.hi ≤ m
      · simp only [hs, hs2, decide_true, Bool.and_true, if_true]
        have hgo : g.ok = true := by revert hg; cases g.ok <;> simp
        obtain ⟨g0, g1, g2, _⟩ := (oG_right _ _ _ _).1 hgo
        have e0 : m - min m g.l = m - g.l := by omega
        have e1 : m - min m g.hi = m - g.hi := by omega
        have e2 : m - min m g.lo = m - g.lo := by omega
        have hmi := fun W : World => minus_any m m m g.l g.lo g.hi W ⟨by omega, by omega⟩ ⟨by omega, by omega⟩ ⟨by omega, by omega⟩ (by omega) (by omega) (by omega)
        simp only [e0, e1, e2] at hmi
        have hea := fun W : World => each_any 43 #[] (fun x => x / 5) (m - g.l) (m - g.hi) (m - g.lo) W (enters_of Try.func43 (by kernel_rfl) rfl)
          (fun x V hx _ => back1_any x V (by rcases hx with rfl | rfl | rfl <;> omega) (by rcases hx with rfl | rfl | rfl <;> omega))
        have hfo := fun W : World => folded_any 44 #[] (fun x y => min x y) ((m - g.l) / 5) ((m - g.hi) / 5) ((m - g.lo) / 5) h.l h.lo h.hi W (enters_of Try.func44 (by kernel_rfl) rfl)
          (fun x y V _ _ => (back2_any x y V).mono fun e w' ⟨he, hw⟩ => ⟨he, 0, hw.symm⟩)
        refine (back_in g h m _ _ _ _ _ _ _ _ _ w hg hs hs2 ha hmi hea hfo).mono fun e w' ⟨he, hb⟩ => ⟨?_, hb⟩
        rw [he, Int.min_comm (_ / 5) h.l, Int.min_comm (_ / 5) h.lo, Int.min_comm (_ / 5) h.hi]
      · simp only [hs2, decide_false, Bool.and_false]; exact back_less g h m w hg hs (by omega)
    · simp only [hs, decide_false, Bool.false_and, Bool.and_false]; exact back_over g h m w hg (by omega)
theorem refBack_any (g h : Kn) (m : Int) (w : World) (hlo : 0 ≤ g.lo) :
    Calls Try.prog 10 #[.int .u64 m, .agg #[.int .u64 g.l, .int .u64 g.lo, .int .u64 g.hi, .int .u64 g.a], .agg #[.int .u64 h.l, .int .u64 h.lo, .int .u64 h.hi, .int .u64 h.a]] w fun e w' => e = .returned (backVal g h m) ∧ Below w.heap.size w w' := by
  unfold backVal
  cases hg : g.ok with
  | false => exact refBack_bad1 g h m w hg
  | true =>
    cases hh : h.ok with
    | false => exact refBack_bad2 g h m w hg hh
    | true =>
      by_cases hs : m ≤ 1099511627776
      · by_cases hs2 : g.hi ≤ m
        · simp only [hs, hs2, decide_true, Bool.and_true, if_true]; exact refBack_in g h m w hg hh hlo hs hs2
        · simp only [hs2, decide_false, Bool.and_false]; exact refBack_less g h m w hg hh hs (by omega)
      · simp only [hs, decide_false, Bool.false_and, Bool.and_false]; exact refBack_over g h m w hg hh (by omega)

def takeG (g c : Kn) : Kn := if c.hi ≤ g.lo then ⟨g.l - c.l, g.lo - c.hi, g.hi - c.lo, madeA (g.lo - c.hi) (g.hi - c.lo) (orI g.a c.a)⟩ else g
def takeK (g c : Kn) : Int := if c.hi ≤ g.lo then 0 else if g.hi < c.lo then 1 else 2
def Kn.val (g : Kn) : Value := .agg #[.int .u64 g.l, .int .u64 g.lo, .int .u64 g.hi, .int .u64 g.a]
theorem take_right (g c : Kn) (w : World) (hb : (g.ok && c.ok) = true) (hlo : 0 ≤ g.lo ∧ 0 ≤ c.lo) (ha : U g.a) :
    Calls Try.prog 17 #[.agg #[.int .u64 g.l, .int .u64 g.lo, .int .u64 g.hi, .int .u64 g.a], .agg #[.int .u64 c.l, .int .u64 c.lo, .int .u64 c.hi, .int .u64 c.a]] w
      fun e w' => e = .returned (.tuple #[(takeG g c).val, .int .i64 (takeK g c), .int .i64 0]) ∧ Below w.heap.size w w' := by
  unfold takeG takeK
  by_cases h1 : c.hi ≤ g.lo
  · simp only [h1, if_true]; exact take_fine g c w hb hlo ha h1
  · simp only [h1, if_false]
    by_cases h2 : g.hi < c.lo
    · simp only [h2, if_true]; exact take_out g c w hb (by omega) h2
    · simp only [h2, if_false]; exact take_secret g c w hb (by omega) (by omega)
theorem refTake_right (g c : Kn) (w : World) (hg : g.ok = true) (hc : c.ok = true) (hlo : 0 ≤ g.lo ∧ 0 ≤ c.lo) :
    Calls Try.prog 20 #[.agg #[.int .u64 g.l, .int .u64 g.lo, .int .u64 g.hi, .int .u64 g.a], .agg #[.int .u64 c.l, .int .u64 c.lo, .int .u64 c.hi, .int .u64 c.a]] w
      fun e w' => e = .returned (.tuple #[(takeG g c).val, .int .i64 (takeK g c)]) ∧ Below w.heap.size w w' := by
  unfold takeG takeK
  by_cases h1 : c.hi ≤ g.lo
  · simp only [h1, if_true]; exact refTake_fine g c w hg hc hlo h1
  · simp only [h1, if_false]
    by_cases h2 : g.hi < c.lo
    · simp only [h2, if_true]; exact refTake_out g c w (by omega) h2
    · simp only [h2, if_false]; exact refTake_secret g c w (by omega) (by omega)
end Go.Proofs.Ytjmplababaejaaa
