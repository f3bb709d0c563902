/- Words and values that are equal. -/
import Derived.Test.YtknkepokkenokaaSl
import Derived.Laws.StructEq
import Derived.Laws.Cover2
set_option linter.unusedVariables false
set_option linter.unusedSimpArgs false
namespace Go.Proofs.Ytknkepokkenokaa
open Go.RowKit

theorem eqWord (a b c d a' b' c' d' : Int) (k : Nat) (w : World) : (Op.equalIn (k + 2) 34 (.agg #[.int .u64 a, .int .u64 b, .int .u64 c, .int .u64 d]) (.agg #[.int .u64 a', .int .u64 b', .int .u64 c', .int .u64 d'])).run Try.prog w =
    .ok (decide (a = a' ∧ b = b' ∧ c = c' ∧ d = d')) w := by
  rw [Op.equalIn]
  simp only [Sem.run_bind, run_underlying (show Try.prog.underlying 34 = some (.array 4 32) by kernel_rfl), Result.andThen_ok]
  simp only [Std.Legacy.Range.forIn_eq_forIn_range', Std.Legacy.Range.size, Nat.sub_zero, Nat.add_sub_cancel, Nat.div_one, List.range'_succ, List.range'_zero, List.forIn_cons, List.forIn_nil]
  go_simp
  by_cases h1 : a = a' <;> by_cases h2 : b = b' <;> by_cases h3 : c = c' <;> by_cases h4 : d = d' <;> simp [h1, h2, h3, h4]
theorem eqWord0 (a b c d a' b' c' d' : Int) (w : World) : (Op.equalIn 10000 34 (.agg #[.int .u64 a, .int .u64 b, .int .u64 c, .int .u64 d]) (.agg #[.int .u64 a', .int .u64 b', .int .u64 c', .int .u64 d'])).run Try.prog w =
    .ok (decide (a = a' ∧ b = b' ∧ c = c' ∧ d = d')) w := eqWord a b c d a' b' c' d' 9998 w
theorem eqVal0 (a b c d l a' b' c' d' l' : Int) (w : World) : (Op.equalIn 10000 37 (.agg #[.int .u64 a, .int .u64 b, .int .u64 c, .int .u64 d, .int .u64 l]) (.agg #[.int .u64 a', .int .u64 b', .int .u64 c', .int .u64 d', .int .u64 l'])).run Try.prog w =
    .ok (decide (a = a' ∧ b = b' ∧ c = c' ∧ d = d' ∧ l = l')) w := by
  rw [show (10000 : Nat) = 9999 + 1 from rfl, run_equalIn_agg w 9999 37 _ _ (by kernel_rfl) (by kernel_rfl)]
  have hw := eqWord a b c d a' b' c' d' 9997 w
  have hu : ∃ fs, Try.prog.underlying 37 = some (.struct fs) ∧ (fs.toList.map fun f => (f.name, f.type, f.offset)) = [("Word", 34, 0), ("Label", 35, 4)] := ⟨_, rfl, by kernel_rfl⟩
  obtain ⟨fs, hu, hf⟩ := hu
  simp only [Program.fieldsOf, hu]
  rcases hm : fs.toList with _ | ⟨f1, _ | ⟨f2, _ | ⟨f3, r⟩⟩⟩
  · rw [hm] at hf; simp at hf
  · rw [hm] at hf; simp at hf
  · rw [hm] at hf
    simp only [List.map_cons, List.map_nil, List.cons.injEq, Prod.mk.injEq, and_true] at hf
    obtain ⟨⟨n1, t1, o1⟩, n2, t2, o2⟩ := hf
    simp only [Op.eqFields, n1, n2, t1, t2, o1, o2]
    go_simp
    by_cases h1 : a = a' <;> by_cases h2 : b = b' <;> by_cases h3 : c = c' <;> by_cases h4 : d = d' <;> by_cases h5 : l = l' <;> simp [h1, h2, h3, h4, h5]
  · rw [hm] at hf; simp at hf
end Go.Proofs.Ytknkepokkenokaa
