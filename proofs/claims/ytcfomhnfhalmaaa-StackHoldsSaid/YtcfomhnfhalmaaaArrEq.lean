/- Arrays of numbers that are equal. No program of its own. No condition. -/
import Derived.Test.YtcfomhnfhalmaaaSl
import Derived.Laws.StructEq
import Derived.Laws.Cover2
set_option linter.unusedVariables false
set_option linter.unusedSimpArgs false
namespace Go.Proofs.Ytcfomhnfhalmaaa
open Go.RowKit

theorem part_int {P : Program} {e : TypeId} {k : IntKind} (he : P.underlying e = some (.int k)) (l : List Int) (i : Nat) (h : i < l.length) (w : World) :
    (part e (l.map (Value.int k)).toArray i).run P w = .ok (.int k (l.getD i 0)) w := by
  unfold part isAgg
  simp [run_underlying he, List.getElem?_eq_getElem h]
theorem eq_loop {P : Program} {len : Nat} {same : Nat → Bool} {B : Nat → Option Bool × Unit → Sem (ForInStep (Option Bool × Unit))}
    (hB : ∀ i s W, i < len → (B i s).run P W = .ok (if same i then .yield (none, ()) else .done (some false, ())) W) (w : World) :
    ∀ m i, i + m = len → (forIn (List.range' i m) ((none : Option Bool), ()) B).run P w = .ok (if (List.range' i m).all same then (none, ()) else (some false, ())) w
  | 0, i, h => by simp
  | m + 1, i, h => by
    rw [List.range'_succ, List.forIn_cons, List.all_cons]
    simp only [Sem.run_bind, hB i _ w (by omega), Result.andThen_ok]
    cases hs : same i
    · simp
    · simp only [if_true, Bool.true_and]
      exact eq_loop hB w m (i + 1) (by omega)
theorem all_same (xs ys : List Int) (len : Nat) (hx : xs.length = len) (hy : ys.length = len) : (List.range' 0 len).all (fun i => xs.getD i 0 == ys.getD i 0) = decide (xs = ys) := by
  rw [Bool.eq_iff_iff, List.all_eq_true, decide_eq_true_iff]
  constructor
  · intro hh
    refine List.ext_getElem? fun j => ?_
    by_cases hj : j < len
    · have := hh j (by simp; omega)
      simp only [beq_iff_eq, List.getD_eq_getElem?_getD] at this
      rw [List.getElem?_eq_getElem (by omega), List.getElem?_eq_getElem (by omega)] at this ⊢
      simpa using this
    · rw [List.getElem?_eq_none (by omega), List.getElem?_eq_none (by omega)]
  · rintro rfl x _
    simp
theorem run_equalIn_ints {P : Program} {t e : TypeId} {len : Nat} {k : IntKind} (hu : P.underlying t = some (.array len e)) (he : P.underlying e = some (.int k)) (hs : (P.info? e).map (·.size) = some 1) (d : Nat) (w : World) (xs ys : List Int) (hx : xs.length = len) (hy : ys.length = len) :
    (Op.equalIn (d + 2) t (.agg (xs.map (Value.int k)).toArray) (.agg (ys.map (Value.int k)).toArray)).run P w = .ok (decide (xs = ys)) w := by
  have hsz : ∀ W, (sizeOf e).run P W = .ok 1 W := fun W => by
    rw [Option.map_eq_some_iff] at hs
    obtain ⟨i, h1, h2⟩ := hs
    simp [sizeOf, typeInfo, h1, h2]
  rw [Op.equalIn]
  simp only [Sem.run_bind, run_underlying hu, hsz, Result.andThen_ok]
  simp only [Std.Legacy.Range.forIn_eq_forIn_range', Std.Legacy.Range.size, Nat.sub_zero, Nat.add_sub_cancel, Nat.div_one]
  rw [eq_loop (len := len) (same := fun i => xs.getD i 0 == ys.getD i 0) (fun i s W hi => by
    simp only [Sem.run_bind, Nat.mul_one, part_int he xs i (by omega), part_int he ys i (by omega), Result.andThen_ok, run_equalIn_int W d e k k _ _ he]
    cases xs.getD i 0 == ys.getD i 0 <;> simp) w len 0 (by omega)]
  simp only [Result.andThen_ok]
  rw [all_same xs ys len hx hy]
  by_cases h : xs = ys
  · subst h; simp
  · simp [h]
theorem eql_ints {P : Program} {t e : TypeId} {len : Nat} {k : IntKind} (hu : P.underlying t = some (.array len e)) (he : P.underlying e = some (.int k)) (hs : (P.info? e).map (·.size) = some 1) (w : World) (xs ys : List Int) (hx : xs.length = len) (hy : ys.length = len) :
    (binOp .eql t (.agg (xs.map (Value.int k)).toArray) (.agg (ys.map (Value.int k)).toArray)).run P w = .ok (.bool (decide (xs = ys))) w := by
  rw [run_eql_struct, run_equalIn_ints hu he hs 9998 w xs ys hx hy]
  rfl
theorem neq_ints {P : Program} {t e : TypeId} {len : Nat} {k : IntKind} (hu : P.underlying t = some (.array len e)) (he : P.underlying e = some (.int k)) (hs : (P.info? e).map (·.size) = some 1) (w : World) (xs ys : List Int) (hx : xs.length = len) (hy : ys.length = len) :
    (binOp .neq t (.agg (xs.map (Value.int k)).toArray) (.agg (ys.map (Value.int k)).toArray)).run P w = .ok (.bool (!decide (xs = ys))) w := by
  rw [run_neq_struct, run_equalIn_ints hu he hs 9998 w xs ys hx hy]
  rfl
end Go.Proofs.Ytcfomhnfhalmaaa
