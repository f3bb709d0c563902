/- copy onto a row's head, whatever the element's size. No program of its own. No condition. -/
import Derived.Test.YtknkepokkenokaaSl
import Derived.OwnWalk
import Derived.Laws.CopyOwn
set_option linter.unusedVariables false
set_option linter.unusedSimpArgs false
namespace Go.Proofs.Ytknkepokkenokaa
open Go.RowKit

theorem run_copy_head {P : Program} {w : World} {d s : Operand} {dT sT ty elem : TypeId} {size : Nat} (hu : P.underlying dT = some (.slice elem)) (hsz : (P.info? elem).map (·.size) = some size)
    (g dLen dCap : Nat) (sp : Option Addr) (sLen sCap : Nat) (cur : Array Value) (t : TypeId) (hg : w.heap[g]? = some (.cells cur t (0, 0))) (cs : List Value) (hn : cs.length = Nat.min sLen dLen * size)
    (hsp : SlAt w sp cs) (hnone : sp = none → sLen = 0 ∧ sCap = 0) (hfit : cs.length ≤ cur.size) (h1 : ∀ v ∈ cs, v.oneCell' = true) :
    (Builtin.copy_ #[dT, sT] ty #[.slice (some ⟨g, 0, none⟩) dLen dCap, .slice sp sLen sCap]).run P w = .ok (goInt (Nat.min sLen dLen)) (w.setRow g (cs ++ cur.toList.drop cs.length).toArray) := by
  cases hq : P.info? elem with
  | none => simp [hq] at hsz
  | some i =>
    have hi : i.size = size := by simpa [hq] using hsz
    have hst := run_storeCells_at P g 0 t cs 0 cur w hg (by simpa using hfit) h1
    simp only [Nat.zero_add, List.take_zero, List.nil_append] at hst
    cases sp with
    | none =>
      obtain ⟨rfl, rfl⟩ := hnone rfl
      obtain rfl : cs = [] := List.eq_nil_of_length_eq_zero (by rw [hn]; simp)
      have : w.setRow g ([] ++ cur.toList.drop 0).toArray = w := by
        simp only [List.drop_zero, List.nil_append, Array.toArray_toList]; exact setRow_self w g cur t (0, 0) hg
      simp only [List.length_nil]
      rw [this]
      simp [Builtin.copy_, run_underlying hu, Builtin.lenOf, Builtin.firstCells, sizeOf, typeInfo, hq, storeCells]
    | some ad =>
      have hsrc : ∀ j v, cs[j]? = some v → w.cell? (ad.add j) = some v := fun j v hv => by
        obtain ⟨b, off, h, _, hc⟩ := hsp.cell hv
        obtain rfl := Option.some.inj h
        rw [Addr.add_lit]; exact hc j v hv
      have hl := run_loadCells_list (P := P) w ad cs hsrc
      rw [hn] at hl
      simp [Builtin.copy_, run_underlying hu, Builtin.lenOf, Builtin.firstCells, sizeOf, typeInfo, hq, hi, hl, hst]
theorem wpList_copy_head {P : Program} {w : World} {ops : Array Oper} {rest : List Oper} {o : Oper} {a : Act} {Q : Exit → Act → World → Prop} (hgd : o.guard = none) (d s : Operand) (dT sT : TypeId)
    (ho : o.op = .call { callee := .builtin .copy, args := #[d, s], argTypes := #[dT, sT] }) (elem : TypeId) (size : Nat) (hu : P.underlying dT = some (.slice elem)) (hsz : (P.info? elem).map (·.size) = some size)
    (g dLen dCap : Nat) (sp : Option Addr) (sLen sCap : Nat) (hd : a.eval d = .slice (some ⟨g, 0, none⟩) dLen dCap) (hs : a.eval s = .slice sp sLen sCap)
    (cur : Array Value) (t : TypeId) (hg : w.heap[g]? = some (.cells cur t (0, 0))) (cs : List Value) (hn : cs.length = Nat.min sLen dLen * size)
    (hsp : SlAt w sp cs) (hnone : sp = none → sLen = 0 ∧ sCap = 0) (hfit : cs.length ≤ cur.size) (h1 : ∀ v ∈ cs, v.oneCell' = true)
    (h : wpList P ops Q rest (a.put o.dst (goInt (Nat.min sLen dLen))) (w.setRow g (cs ++ cur.toList.drop cs.length).toArray)) : wpList P ops Q (o :: rest) a w := by
  refine wpList_plain hgd fun K hK => ?_
  have hrun := run_copy_head (P := P) (w := w) (d := d) (s := s) (dT := dT) (sT := sT) (ty := o.type) hu hsz g dLen dCap sp sLen sCap cur t hg cs hn hsp hnone hfit h1
  unfold Oper.wp
  simp [execOp, ho, resolve, invoke, builtin, hd, hs, hrun, Result.andThen]
  exact hK _ _ h
theorem made_zero {α : Type} (f : α → List Value) (z : Array Value) (x : α) (hz : z.toList = f x) (hp : 0 < z.size) (n : Nat) : (madeCells z (n * z.size)).toList = (List.replicate n x).flatMap f := by
  have hf : ∀ y ∈ List.replicate n x, (f y).length = z.size := fun y hy => by rw [List.eq_of_mem_replicate hy, ← hz]; simp
  have hl : ((List.replicate n x).flatMap f).length = n * z.size := by
    clear hf; induction n with
    | zero => simp
    | succ n ih => rw [List.replicate_succ, List.flatMap_cons, List.length_append, ih, ← hz, Nat.succ_mul]; simp; omega
  apply List.ext_getElem?
  intro j
  by_cases hj : j < n * z.size
  · have hd : j / z.size < n := Nat.div_lt_of_lt_mul (by rw [Nat.mul_comm]; exact hj)
    have hm : j % z.size < z.size := Nat.mod_lt _ hp
    have e : j / z.size * z.size + j % z.size = j := by rw [Nat.mul_comm]; exact Nat.div_add_mod j z.size
    have h2 := flat_at (f := fun _ : α => f x) (n := z.size) (fun _ => by rw [← hz]; simp) (List.replicate n x) (j / z.size) x (by simp [hd]) (j % z.size) hm
    rw [e] at h2
    have h3 : (List.replicate n x).flatMap f = (List.replicate n x).flatMap (fun _ => f x) := by
      rw [List.flatMap_def, List.flatMap_def]; congr 1; simp
    rw [h3, h2, ← hz]
    simp [madeCells, hj, hm]
  · rw [List.getElem?_eq_none (by simpa [size_madeCells] using hj), List.getElem?_eq_none (by rw [hl]; omega)]
end Go.Proofs.Ytknkepokkenokaa
