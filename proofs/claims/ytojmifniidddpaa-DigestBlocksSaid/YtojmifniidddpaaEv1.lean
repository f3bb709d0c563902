/- Values whose shape is known (numbers may be variables), and what they stand for. No program of its own. No condition. -/
import Derived.Test.YtojmifniidddpaaReg
set_option linter.unusedVariables false
set_option linter.unusedSimpArgs false
namespace Go.Proofs.Ytojmifniidddpaa
open Go.RowKit

/-- A value whose shape is known. lit: the number is a literal. -/
inductive AV where
  | bool (lit : Bool) (b : Bool)
  | int (k : IntKind) (lit : Bool) (n : Int)
  | bv (k : IntKind) (a : BitVec k.bits)
  | ptr (l off : Nat)
  | slice (l off len cap : Nat)
  | func (fn : Fn) (cap : List AV)
  | agg (cs : List AV)
  | tuple (vs : List AV)
  | raw (v : Value)

mutual
/-- v stands for V, where the block of label l lies at ρ[l]. -/
inductive Rel (ρ : List Nat) : AV → Value → Prop
  | bool {l b} : Rel ρ (.bool l b) (.bool b)
  | int {k l n} : Rel ρ (.int k l n) (.int k n)
  | bv {k a} (h : k.signed = false) : Rel ρ (.bv k a) (.int k (a.toNat : Int))
  | ptr {l o b} (h : ρ[l]? = some b) : Rel ρ (.ptr l o) (.pointer (some ⟨b, o, none⟩))
  | slice {l o n c b} (h : ρ[l]? = some b) : Rel ρ (.slice l o n c) (.slice (some ⟨b, o, none⟩) n c)
  | func {fn cs vs} (h : RelL ρ cs vs) : Rel ρ (.func fn cs) (.func fn #[] vs.toArray)
  | agg {cs vs} (h : RelL ρ cs vs) : Rel ρ (.agg cs) (.agg vs.toArray)
  | tuple {cs vs} (h : RelL ρ cs vs) : Rel ρ (.tuple cs) (.tuple vs.toArray)
  | raw {v} : Rel ρ (.raw v) v
inductive RelL (ρ : List Nat) : List AV → List Value → Prop
  | nil : RelL ρ [] []
  | cons {c v cs vs} (h : Rel ρ c v) (hs : RelL ρ cs vs) : RelL ρ (c :: cs) (v :: vs)
end

theorem getElem?_append_some {α : Type} {l m : List α} {i : Nat} {x : α} (h : l[i]? = some x) : (l ++ m)[i]? = some x := by
  rw [List.getElem?_append_left (List.getElem?_eq_some_iff.1 h).1]; exact h
mutual
theorem Rel.grow {ρ : List Nat} (σ : List Nat) : ∀ {v : AV} {V : Value}, Rel ρ v V → Rel (ρ ++ σ) v V
  | _, _, .bool => .bool
  | _, _, .int => .int
  | _, _, .bv h => .bv h
  | _, _, .ptr h => .ptr (getElem?_append_some h)
  | _, _, .slice h => .slice (getElem?_append_some h)
  | _, _, .func h => .func (RelL.grow σ h)
  | _, _, .agg h => .agg (RelL.grow σ h)
  | _, _, .tuple h => .tuple (RelL.grow σ h)
  | _, _, .raw => .raw
theorem RelL.grow {ρ : List Nat} (σ : List Nat) : ∀ {v : List AV} {V : List Value}, RelL ρ v V → RelL (ρ ++ σ) v V
  | _, _, .nil => .nil
  | _, _, .cons h hs => .cons (Rel.grow σ h) (RelL.grow σ hs)
end

section
variable {ρ : List Nat}
theorem RelL.len {cs : List AV} {vs : List Value} (h : RelL ρ cs vs) : vs.length = cs.length := by
  induction cs generalizing vs with
  | nil => cases h; rfl
  | cons c cs ih => cases h with | cons h hs => simp [ih hs]
theorem RelL.get {cs : List AV} {vs : List Value} (h : RelL ρ cs vs) {i : Nat} {c : AV} (hc : cs[i]? = some c) : ∃ v, vs[i]? = some v ∧ Rel ρ c v := by
  induction cs generalizing vs i with
  | nil => simp at hc
  | cons d cs ih =>
    cases h with | cons h hs =>
    cases i with
    | zero => simp at hc; subst hc; exact ⟨_, rfl, h⟩
    | succ i => simpa using ih hs (by simpa using hc)
theorem RelL.set {cs : List AV} {vs : List Value} (h : RelL ρ cs vs) {i : Nat} {c : AV} {v : Value} (hc : Rel ρ c v) : RelL ρ (cs.set i c) (vs.set i v) := by
  induction cs generalizing vs i with
  | nil => cases h; exact .nil
  | cons d cs ih =>
    cases h with | cons h hs =>
    cases i with
    | zero => exact .cons hc hs
    | succ i => exact .cons h (ih hs)
theorem RelL.append {cs ds : List AV} {vs ws : List Value} (h : RelL ρ cs vs) (h' : RelL ρ ds ws) : RelL ρ (cs ++ ds) (vs ++ ws) := by
  induction cs generalizing vs with
  | nil => cases h; exact h'
  | cons c cs ih => cases h with | cons h hs => exact .cons h (ih hs)
theorem RelL.drop {cs : List AV} {vs : List Value} (n : Nat) (h : RelL ρ cs vs) : RelL ρ (cs.drop n) (vs.drop n) := by
  induction n generalizing cs vs with
  | zero => exact h
  | succ n ih => cases h with
    | nil => exact .nil
    | cons h hs => exact ih hs
theorem RelL.take {cs : List AV} {vs : List Value} (n : Nat) (h : RelL ρ cs vs) : RelL ρ (cs.take n) (vs.take n) := by
  induction n generalizing cs vs with
  | zero => exact .nil
  | succ n ih => cases h with
    | nil => exact .nil
    | cons h hs => exact .cons h (ih hs)
theorem RelL.rep {c : AV} {v : Value} (h : Rel ρ c v) (n : Nat) : RelL ρ (List.replicate n c) (List.replicate n v) := by
  induction n with
  | zero => exact .nil
  | succ n ih => exact .cons h ih
end

/-- What a literal stands for. -/
def AV.ofCell : Value → AV
  | .bool b => .bool true b
  | .int k n => .int k true n
  | v => .raw v
def AV.ofCells : List Value → List AV
  | [] => []
  | v :: r => .ofCell v :: ofCells r
def AV.ofValue : Value → AV
  | .agg cs => .agg (ofCells cs.toList)
  | v => .ofCell v
theorem Rel.ofCell {ρ : List Nat} (v : Value) : Rel ρ (.ofCell v) v := by
  cases v <;> unfold AV.ofCell <;> first | exact .bool | exact .int | exact .raw
theorem RelL.ofCells {ρ : List Nat} : ∀ l : List Value, RelL ρ (AV.ofCells l) l
  | [] => .nil
  | v :: r => .cons (Rel.ofCell v) (RelL.ofCells r)
theorem Rel.ofValue {ρ : List Nat} (v : Value) : Rel ρ (.ofValue v) v := by
  cases v with
  | agg cs => exact .agg (vs := cs.toList) (RelL.ofCells _)
  | _ => unfold AV.ofValue; exact Rel.ofCell _

/-- The cells of a value. -/
def AV.cells : AV → Option (List AV)
  | .agg cs => some cs
  | .raw (.agg _) => none
  | .raw (.tuple _) => none
  | .tuple _ => none
  | v => some [v]
theorem Rel.cells {ρ : List Nat} {v : AV} {V : Value} {cs : List AV} (h : Rel ρ v V) (hc : v.cells = some cs) : RelL ρ cs V.cells.toList := by
  cases h with
  | agg h => simp [AV.cells] at hc; subst hc; simpa [Value.cells] using h
  | tuple h => simp [AV.cells] at hc
  | raw =>
    cases V <;> simp [AV.cells] at hc <;> subst hc <;> exact .cons .raw .nil
  | bool => simp [AV.cells] at hc; subst hc; exact .cons .bool .nil
  | int => simp [AV.cells] at hc; subst hc; exact .cons .int .nil
  | bv h => simp [AV.cells] at hc; subst hc; exact .cons (.bv h) .nil
  | ptr h => simp [AV.cells] at hc; subst hc; exact .cons (.ptr h) .nil
  | slice h => simp [AV.cells] at hc; subst hc; exact .cons (.slice h) .nil
  | func h => simp [AV.cells] at hc; subst hc; exact .cons (.func h) .nil

/-- Values of one cell each. -/
def AV.one : AV → Bool
  | .agg _ | .tuple _ => false
  | .raw v => v.oneCell'
  | _ => true
theorem Rel.one {ρ : List Nat} {v : AV} {V : Value} (h : Rel ρ v V) (h1 : v.one = true) : V.oneCell' = true := by
  cases h <;> first | rfl | exact h1 | simp [AV.one] at h1

/-- Blocks whose cells are known. -/
abbrev ABlk := List AV × TypeId
/-- The blocks of labels 0, 1, .. -/
inductive RelB (ρ : List Nat) : List ABlk → List Block → Prop
  | nil : RelB ρ [] []
  | cons {cs t b Cs H Hr} (h : RelL ρ cs Cs) (hs : RelB ρ H Hr) : RelB ρ ((cs, t) :: H) ((b, Cs.toArray, t) :: Hr)
def nums (Hr : List Block) : List Nat := Hr.map (·.1)
theorem RelB.get {ρ : List Nat} {H : List ABlk} {Hr : List Block} (h : RelB ρ H Hr) {l : Nat} {cs : List AV} {t : TypeId} (hl : H[l]? = some (cs, t)) : ∃ b Cs, Hr[l]? = some (b, Cs.toArray, t) ∧ RelL ρ cs Cs := by
  induction h generalizing l with
  | nil => simp at hl
  | cons h hs ih =>
    cases l with
    | zero => simp at hl; obtain ⟨rfl, rfl⟩ := hl; exact ⟨_, _, rfl, h⟩
    | succ l => simpa using ih (by simpa using hl)
theorem RelB.len {ρ : List Nat} {H : List ABlk} {Hr : List Block} (h : RelB ρ H Hr) : Hr.length = H.length := by
  induction h with
  | nil => rfl
  | cons _ _ ih => simp [ih]
theorem RelB.grow {ρ : List Nat} (σ : List Nat) {H : List ABlk} {Hr : List Block} (h : RelB ρ H Hr) : RelB (ρ ++ σ) H Hr := by
  induction h with
  | nil => exact .nil
  | cons h hs ih => exact .cons (h.grow σ) ih
theorem RelB.snoc {ρ : List Nat} {H : List ABlk} {Hr : List Block} (h : RelB ρ H Hr) {cs : List AV} {t : TypeId} {b : Nat} {Cs : List Value} (hc : RelL ρ cs Cs) : RelB ρ (H ++ [(cs, t)]) (Hr ++ [(b, Cs.toArray, t)]) := by
  induction h with
  | nil => exact .cons hc .nil
  | cons h hs ih => exact .cons h ih
theorem RelB.set {ρ : List Nat} {H : List ABlk} {Hr : List Block} (h : RelB ρ H Hr) {l : Nat} {cs : List AV} {t : TypeId} {b : Nat} {Cs : List Value} (hc : RelL ρ cs Cs) : RelB ρ (H.set l (cs, t)) (Hr.set l (b, Cs.toArray, t)) := by
  induction h generalizing l with
  | nil => exact .nil
  | cons h hs ih =>
    cases l with
    | zero => exact .cons hc hs
    | succ l => exact .cons h ih
theorem nums_set {Hr : List Block} {l b : Nat} {c c' : Array Value} {t t' : TypeId} (h : Hr[l]? = some (b, c, t)) : nums (Hr.set l (b, c', t')) = nums Hr := by
  unfold nums
  rw [List.map_set]
  apply List.ext_getElem?
  intro i
  rw [List.getElem?_set]
  split
  · rename_i e; subst e
    split
    · simp [h]
    · rename_i hl
      rw [List.getElem?_eq_none]; simpa using hl
  · rfl
theorem nums_snoc (Hr : List Block) (b : Nat) (c : Array Value) (t : TypeId) : nums (Hr ++ [(b, c, t)]) = nums Hr ++ [b] := by simp [nums]
theorem nums_get {Hr : List Block} {l b : Nat} {c : Array Value} {t : TypeId} (h : Hr[l]? = some (b, c, t)) : (nums Hr)[l]? = some b := by simp [nums, h]

/-- A value of numbers alone. -/
def AV.val? : AV → Option Value
  | .bool _ b => some (.bool b)
  | .int k _ n => some (.int k n)
  | .bv k a => if k.signed then none else some (.int k (a.toNat : Int))
  | .raw v => some v
  | _ => none
def AV.vals? : List AV → Option (List Value)
  | [] => some []
  | c :: r => match c.val?, vals? r with
    | some v, some vs => some (v :: vs)
    | _, _ => none
def AV.plain? : AV → Option Value
  | .agg cs => (AV.vals? cs).map fun l => .agg l.toArray
  | v => v.val?
def AV.plains? : List AV → Option (List Value)
  | [] => some []
  | c :: r => match c.plain?, plains? r with
    | some v, some vs => some (v :: vs)
    | _, _ => none
/-- What a result without addresses stands for. -/
def AV.told? : AV → Option Value
  | .tuple cs => (AV.plains? cs).map fun l => .tuple l.toArray
  | v => v.plain?
theorem Rel.val {ρ : List Nat} {v : AV} {V W : Value} (h : Rel ρ v V) (hv : v.val? = some W) : V = W := by
  cases h <;> simp [AV.val?] at hv <;> first | exact hv | exact hv.2
theorem RelL.vals {ρ : List Nat} : ∀ {v : List AV} {V W : List Value}, RelL ρ v V → AV.vals? v = some W → V = W
  | [], _, _, .nil, hv => by simp [AV.vals?] at hv; exact hv.symm
  | c :: r, _, W, .cons h hs, hv => by
    unfold AV.vals? at hv
    split at hv
    · rename_i e1 e2
      cases hv
      rw [h.val e1, hs.vals e2]
    · cases hv
theorem Rel.plain {ρ : List Nat} {v : AV} {V W : Value} (h : Rel ρ v V) (hv : v.plain? = some W) : V = W := by
  cases h with
  | agg h =>
    simp only [AV.plain?, Option.map_eq_some_iff] at hv
    obtain ⟨l, h1, h2⟩ := hv
    rw [← h2, h.vals h1]
  | @bool l b => exact Rel.val (ρ := ρ) (v := .bool l b) .bool hv
  | @int k l n => exact Rel.val (ρ := ρ) (v := .int k l n) .int hv
  | bv h => exact Rel.val (ρ := ρ) (.bv h) hv
  | raw => exact Rel.val (ρ := ρ) .raw hv
  | ptr h => cases hv
  | slice h => cases hv
  | func h => cases hv
  | tuple h => cases hv
theorem RelL.plains {ρ : List Nat} : ∀ {v : List AV} {V W : List Value}, RelL ρ v V → AV.plains? v = some W → V = W
  | [], _, _, .nil, hv => by simp [AV.plains?] at hv; exact hv.symm
  | c :: r, _, W, .cons h hs, hv => by
    unfold AV.plains? at hv
    split at hv
    · rename_i e1 e2
      cases hv
      rw [h.plain e1, hs.plains e2]
    · cases hv
theorem Rel.told {ρ : List Nat} {v : AV} {V W : Value} (h : Rel ρ v V) (hv : v.told? = some W) : V = W := by
  cases h with
  | tuple h =>
    simp only [AV.told?, Option.map_eq_some_iff] at hv
    obtain ⟨l, h1, h2⟩ := hv
    rw [← h2, h.plains h1]
  | @bool l b => exact Rel.plain (ρ := ρ) (v := .bool l b) .bool hv
  | @int k l n => exact Rel.plain (ρ := ρ) (v := .int k l n) .int hv
  | bv h => exact Rel.plain (ρ := ρ) (.bv h) hv
  | raw => exact Rel.plain (ρ := ρ) .raw hv
  | agg h => exact Rel.plain (ρ := ρ) (.agg h) hv
  | ptr h => cases hv
  | slice h => cases hv
  | func h => cases hv
end Go.Proofs.Ytojmifniidddpaa
