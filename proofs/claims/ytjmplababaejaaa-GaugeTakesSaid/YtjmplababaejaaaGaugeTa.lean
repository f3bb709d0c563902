/- The law GaugeTakes: all ways. -/
import Derived.Test.YtjmplababaejaaaGaugeTs
import Derived.Test.YtjmplababaejaaaGaugeTn
set_option linter.unusedVariables false
set_option linter.unusedSimpArgs false
namespace Go.Proofs.Ytjmplababaejaaa
open Go.RowKit
theorem takes_any (A : Option Addr) (g : Kn) (xs : List Kn) (cap : Nat) (many : Int) (w : World) (hS : SlAt w A (xs.flatMap Kn.cells)) (hcap : xs.length ≤ cap) (ug : U g.lo ∧ U g.a) (ux : ∀ c ∈ xs, U c.lo ∧ U c.a) :
    Calls Try.prog 5 #[.agg #[.int .u64 g.l, .int .u64 g.lo, .int .u64 g.hi, .int .u64 g.a], .slice A xs.length cap, .int .i64 many] w fun e w' => e = .returned (.bool true) ∧ Below w.heap.size w w' := by
  by_cases h : 20 < xs.length
  · exact takes_s A _ cap g many w h
  rcases hall : (g :: xs).all Kn.ok with _ | _
  · rcases hg : g.ok with _ | _
    · exact takes_b1 A g xs cap many w hS hcap (by omega) hg hall
    · exact takes_b2 A g xs cap many w hS hcap (by omega) hg hall ug.1.1 ug.2 (fun c hc => (ux c hc).1.1)
  · rw [List.all_eq_true] at hall
    have hgd : Goodly g := ⟨hall g (by simp), ug.1.1, ug.2⟩
    have hcd : ∀ c ∈ xs, Goodly c := fun c hc => ⟨hall c (by simp [hc]), (ux c hc).1.1, (ux c hc).2⟩
    obtain ⟨m, hm⟩ := uptoG_has g xs
    by_cases hms : m < xs.length
    · exact takes_gs A g xs cap m many w hS hcap (by omega) hgd hcd hm hms
    · exact takes_gl A g xs cap m many w hS hcap (by omega) hgd hcd hm (by have := hm.1; omega)
end Go.Proofs.Ytjmplababaejaaa
