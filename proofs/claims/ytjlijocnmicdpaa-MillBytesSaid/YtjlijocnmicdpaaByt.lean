/- Bytes in slices; calls that give lists in new blocks. No program of its own. No condition. -/
import Derived.Test.YtjlijocnmicdpaaSl
import Derived.Deep.Onto
set_option linter.unusedVariables false
set_option linter.unusedSimpArgs false
namespace Go.Proofs.Ytjlijocnmicdpaa
open Go.RowKit

def bytesC (l : List Int) : List Value := l.map (Value.int .u8)
theorem bytesC_len (l : List Int) : (bytesC l).length = l.length := by simp [bytesC]
theorem bytesC_at {l : List Int} {k : Nat} {x : Int} (h : l[k]? = some x) : (bytesC l)[k]? = some (.int .u8 x) := by simp [bytesC, h]
theorem bytesC_app (a b : List Int) : bytesC (a ++ b) = bytesC a ++ bytesC b := by simp [bytesC]
theorem bytesC_one (l : List Int) : ∀ u ∈ bytesC l, u.oneCell' = true := fun u hu => by
  obtain ⟨x, _, rfl⟩ := List.mem_map.1 hu; rfl
/-- What a call that gives a list leaves behind, as blocks: whatever order they come in. -/
def GivesT (cs : List Value) (n : Nat) (v : Value) (T : List Block) : Prop := ∃ A c, v = .slice A n c ∧ n ≤ c ∧ ∀ w, Own T w → SlAt w A cs
theorem givesT_of_owns {w : World} {base : Nat} {e : TypeId} {size n : Nat} {v : Value} {xs : List Value} (h : w.ownsRow base e size v n xs) : ∃ T, GivesT xs n v T ∧ Own T w ∧ ∀ p, p ∈ T → base ≤ p.1 := by
  rcases h.2 with ⟨hv, hn⟩ | ⟨g, cap', cur, hv, hbg, hh, hnc, hcm, hcs, htake⟩
  · subst hv; subst hn
    refine ⟨[], ⟨_, _, rfl, Nat.le_refl _, fun w _ => .inl (List.eq_nil_of_length_eq_zero (by simpa using h.1))⟩, fun p hp => (by simp at hp), fun p hp => (by simp at hp)⟩
  · subst hv
    refine ⟨[(g, cur, e)], ⟨_, _, rfl, hnc, fun w hw => ?_⟩, (fun p hp => by simp at hp; subst hp; exact hh), fun p hp => by simp at hp; subst hp; exact hbg⟩
    have hb : Blk w g cur e := hw.get 0 rfl
    refine .inr ⟨g, 0, rfl, hb.lt, fun j u hu => ?_⟩
    rw [Nat.zero_add, hb.cell]
    have hj : j < n * size := by rw [← h.1]; exact (List.getElem?_eq_some_iff.1 hu).1
    rw [← htake, List.getElem?_take, if_pos hj] at hu
    simpa using hu
/-- What is given lies in new blocks. -/
def FreshT (base : Nat) (cs : List Value) (n : Nat) (v : Value) (w : World) : Prop := ∃ T, GivesT cs n v T ∧ Own T w ∧ ∀ p, p ∈ T → base ≤ p.1
theorem FreshT.mono {base base' : Nat} {cs : List Value} {n : Nat} {v : Value} {w : World} (h : FreshT base cs n v w) (hb : base' ≤ base) : FreshT base' cs n v w := by
  obtain ⟨T, h1, h2, h3⟩ := h
  exact ⟨T, h1, h2, fun p hp => Nat.le_trans hb (h3 p hp)⟩
/-- The call has given a list. -/
def Gives (w : World) (cs : List Value) (n : Nat) (e : Ending) (w' : World) : Prop := ∃ A c, e = .returned (.slice A n c) ∧ SlAt w' A cs ∧ n ≤ c ∧ Below w.heap.size w w' ∧ FreshT w.heap.size cs n (.slice A n c) w'
theorem slice_of_owns {w : World} {base : Nat} {e : TypeId} {size n : Nat} {v : Value} {xs : List Value} (h : w.ownsRow base e size v n xs) : ∃ A c, v = .slice A n c ∧ SlAt w A xs ∧ n ≤ c ∧ FreshT base xs n v w := by
  rcases h.2 with ⟨hv, hn⟩ | ⟨g, cap', cur, hv, hbg, hh, hnc, hcm, hcs, htake⟩
  · subst hv; subst hn
    exact ⟨_, _, rfl, SlAt.of_owns h, Nat.le_refl _, givesT_of_owns h⟩
  · subst hv
    exact ⟨_, _, rfl, SlAt.of_owns h, hnc, givesT_of_owns h⟩
theorem Own.left {T H : List Block} {w : World} (h : Own (T ++ H) w) : Own T w := fun p hp => h p (List.mem_append_left _ hp)
theorem Own.right {T H : List Block} {w : World} (h : Own (T ++ H) w) : Own H w := fun p hp => h p (List.mem_append_right _ hp)
theorem Own.tl {q : Block} {H : List Block} {w : World} (h : Own (q :: H) w) : Own H w := fun p hp => h p (List.mem_cons_of_mem _ hp)
/-- 'append(nil, make([]T, n)...)': a new row of noughts. -/
theorem wpList_append_make {P : Program} {w : World} {ops : Array Oper} {rest : List Oper} {o : Oper} {a : Act} {Q : Exit → Act → World → Prop} (hgd : o.guard = none) (s x : Operand) (t u : TypeId)
    (ho : o.op = .call { callee := .builtin .append, args := #[s, x], argTypes := #[t, u] })
    (e : TypeId) (i : TypeInfo) (z : Value) (bytes : Nat) (ht : P.underlying t = some (.slice e)) (hu : P.underlying u = some (.int .i64)) (hi : P.info? e = some i) (hz : i.zero = some z)
    (hsize : i.size = 1) (hby : i.bytes = bytes) (hzs : z.cells.size = 1)
    (n : Nat) (hs : a.eval s = .slice none 0 0) (hx : a.eval x = .int .i64 n) (h0 : 0 < n) (h63 : n ≤ 1000000) (hbytes : n * bytes ≤ 140737488355328)
    (h : ∀ cap w', n ≤ cap → w'.ownsRow w.heap.size e 1 (.slice (some ⟨w.heap.size, 0, none⟩) 0 cap) 0 [] → Below w.heap.size w w' → wpList P ops Q rest (a.put o.dst (.slice (some ⟨w.heap.size, 0, none⟩) n cap)) w') : wpList P ops Q (o :: rest) a w := by
  subst hby
  have hn : n ≠ 0 := by omega
  have hwr : IntKind.i64.wrap (n : Int) = n := by rw [IntKind.wrap_i64]; omega
  have hl : ¬ (281474976710656 < (n : Int) * i.bytes) := by
    have : ((n * i.bytes : Nat) : Int) ≤ 140737488355328 := by omega
    rw [Int.natCast_mul] at this; omega
  have h48' : ¬ (281474976710656 < Builtin.nextslicecap n 0 * i.bytes) := by rw [nextslicecap_zero h0]; omega
  have hneg : ¬ ((n : Int) < 0) := by omega
  have h63' : ¬ (9223372036854775807 < (n : Int)) := by omega
  have hrun : (Builtin.append_ #[t, u] o.type #[.slice none 0 0, .int .i64 n]).run P w =
      .ok (.slice (some ⟨w.heap.size, 0, none⟩) n (grownCap w n 0 e)) (w.drew.alloc (.cells (Builtin.zeroCells z.cells n ++ Builtin.zeroCells z.cells (grownCap w n 0 e - n)) e)) := by
    simp [Builtin.append_, run_underlying ht, run_underlying hu, sizeOf, typeInfo, zeroValue, hi, hz, hsize, asInt, asIntOf, hwr, hneg, hl, hn, h63', h48', Question.forced, run_firstCells_none, newRow, grownCap]
  refine wpList_plain hgd fun K hK => ?_
  unfold Oper.wp execOp
  simp only [ho, resolve, invoke, builtin, Sem.run_bind, Sem.run_pure, Result.andThen_ok, List.map_toArray, List.map_cons, List.map_nil, hs, hx, hrun]
  have hge := grownCap_ge w n 0 e
  have hcm : grownCap w n 0 e ≤ maxLen := grownCap_le_maxLen w n 0 e (by simp only [maxLen]; omega)
  refine hK _ _ (h (grownCap w n 0 e) _ hge ⟨by simp, .inr ⟨w.heap.size, _, _, rfl, Nat.le_refl _, heap_alloc_new w.drew _, Nat.zero_le _, hcm, ?_, by simp⟩⟩ ⟨rfl, rfl, rfl, by simp, fun k hk => heap_alloc_old w.drew _ hk⟩)
  simp only [Array.size_append, size_zeroCells, hzs]
  omega
end Go.Proofs.Ytjlijocnmicdpaa
