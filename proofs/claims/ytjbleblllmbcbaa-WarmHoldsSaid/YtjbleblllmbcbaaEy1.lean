/- Values whose shape is known (numbers may be variables), and what they stand for. No program of its own. No condition. -/
import Derived.Test.YtjbleblllmbcbaaRegW
set_option linter.unusedVariables false
set_option linter.unusedSimpArgs false
namespace Go.Proofs.Ytjbleblllmbcbaa
open Go.RowKit

/-- A value whose shape is known. lit: the number is a literal. -/
inductive AV where
  | bool (lit : Bool) (b : Bool)
  | int (k : IntKind) (lit : Bool) (n : Int)
  | bv (k : IntKind) (a : BitVec k.bits)
  | ptr (l off : Nat)
  | slice (l off len cap : Nat)
  | func (fn : Fn) (cap : List AV)
  | agg (cs : List AV)
  | tuple (vs : List AV)
  | raw (v : Value)
  | rsl (j n cap : Nat)
  | rptr (j : Nat) (i : Int) (o : Nat)
  | gsl (l off n : Nat)
  | gptr (l : Nat) (i : Int) (o : Nat)
  | mp (l : Nat)
  | junk

/-- The blocks of the labels: number, size of an element (of a row), number of cells. -/
structure Num where
  b : Nat
  s : Nat
  z : Nat
abbrev Nums := List Num
/-- A row that is only read: elements i < n of s cells each; F: their cells; V: these as values. -/
structure RowI where
  A : Option Addr
  n : Nat
  s : Nat
  F : Int → List AV
  V : Nat → List Value
  sub : List (Nat × Nat)
def subOf (a : Nat) : List (Nat × Nat) → Option Nat
  | [] => none
  | (b, j) :: r => bif Nat.beq a b then some j else subOf a r
abbrev Rws := Nat → Option RowI
mutual
/-- v stands for V, where the block of label l lies at ρ[l]. -/
inductive Rel (R : Rws) (ρ : Nums) : AV → Value → Prop
  | bool {l b} : Rel R ρ (.bool l b) (.bool b)
  | int {k l n} : Rel R ρ (.int k l n) (.int k n)
  | bv {k a} (h : k.signed = false) : Rel R ρ (.bv k a) (.int k (a.toNat : Int))
  | ptr {l o q} (h : ρ[l]? = some q) : Rel R ρ (.ptr l o) (.pointer (some ⟨q.b, o, none⟩))
  | slice {l o n c q} (h : ρ[l]? = some q) : Rel R ρ (.slice l o n c) (.slice (some ⟨q.b, o, none⟩) n c)
  | func {fn cs vs} (h : RelL R ρ cs vs) : Rel R ρ (.func fn cs) (.func fn #[] vs.toArray)
  | agg {cs vs} (h : RelL R ρ cs vs) : Rel R ρ (.agg cs) (.agg vs.toArray)
  | tuple {cs vs} (h : RelL R ρ cs vs) : Rel R ρ (.tuple cs) (.tuple vs.toArray)
  | raw {v} : Rel R ρ (.raw v) v
  | rsl {j r c} (h : R j = some r) (hc : r.n ≤ c) : Rel R ρ (.rsl j r.n c) (.slice r.A r.n c)
  | rptr {j r} {i : Int} {o b off} (h : R j = some r) (ha : r.A = some ⟨b, off, none⟩) (hi : 0 ≤ i ∧ i < r.n) : Rel R ρ (.rptr j i o) (.pointer (some ⟨b, off + i.toNat * r.s + o, none⟩))
  | gsl {l off n c q} (h : ρ[l]? = some q) (hn : n ≤ c) (hz : (off + c) * q.s = q.z) (hm : c ≤ maxLen) : Rel R ρ (.gsl l off n) (.slice (some ⟨q.b, off * q.s, none⟩) n c)
  | gptr {l} {i : Int} {o q} (h : ρ[l]? = some q) : Rel R ρ (.gptr l i o) (.pointer (some ⟨q.b, i.toNat * q.s + o, none⟩))
  | mp {l q} (h : ρ[l]? = some q) : Rel R ρ (.mp l) (.map (some q.b))
  | junk {v} : Rel R ρ .junk v
inductive RelL (R : Rws) (ρ : Nums) : List AV → List Value → Prop
  | nil : RelL R ρ [] []
  | cons {c v cs vs} (h : Rel R ρ c v) (hs : RelL R ρ cs vs) : RelL R ρ (c :: cs) (v :: vs)
end

variable {R : Rws}
theorem getElem?_append_some {α : Type} {l m : List α} {i : Nat} {x : α} (h : l[i]? = some x) : (l ++ m)[i]? = some x := by
  rw [List.getElem?_append_left (List.getElem?_eq_some_iff.1 h).1]; exact h
mutual
theorem Rel.grow {ρ : Nums} (σ : Nums) : ∀ {v : AV} {V : Value}, Rel R ρ v V → Rel R (ρ ++ σ) v V
  | _, _, .bool => .bool
  | _, _, .int => .int
  | _, _, .bv h => .bv h
  | _, _, .ptr h => .ptr (getElem?_append_some h)
  | _, _, .slice h => .slice (getElem?_append_some h)
  | _, _, .func h => .func (RelL.grow σ h)
  | _, _, .agg h => .agg (RelL.grow σ h)
  | _, _, .tuple h => .tuple (RelL.grow σ h)
  | _, _, .raw => .raw
  | _, _, .rsl h hc => .rsl h hc
  | _, _, .rptr h ha hi => .rptr h ha hi
  | _, _, .gsl h hn hz hm => .gsl (getElem?_append_some h) hn hz hm
  | _, _, .gptr h => .gptr (getElem?_append_some h)
  | _, _, .mp h => .mp (getElem?_append_some h)
  | _, _, .junk => .junk
theorem RelL.grow {ρ : Nums} (σ : Nums) : ∀ {v : List AV} {V : List Value}, RelL R ρ v V → RelL R (ρ ++ σ) v V
  | _, _, .nil => .nil
  | _, _, .cons h hs => .cons (Rel.grow σ h) (RelL.grow σ hs)
end

section
variable {ρ : Nums}
theorem RelL.len {cs : List AV} {vs : List Value} (h : RelL R ρ cs vs) : vs.length = cs.length := by
  induction cs generalizing vs with
  | nil => cases h; rfl
  | cons c cs ih => cases h with | cons h hs => simp [ih hs]
theorem RelL.get {cs : List AV} {vs : List Value} (h : RelL R ρ cs vs) {i : Nat} {c : AV} (hc : cs[i]? = some c) : ∃ v, vs[i]? = some v ∧ Rel R ρ c v := by
  induction cs generalizing vs i with
  | nil => simp at hc
  | cons d cs ih =>
    cases h with | cons h hs =>
    cases i with
    | zero => simp at hc; subst hc; exact ⟨_, rfl, h⟩
    | succ i => simpa using ih hs (by simpa using hc)
theorem RelL.set {cs : List AV} {vs : List Value} (h : RelL R ρ cs vs) {i : Nat} {c : AV} {v : Value} (hc : Rel R ρ c v) : RelL R ρ (cs.set i c) (vs.set i v) := by
  induction cs generalizing vs i with
  | nil => cases h; exact .nil
  | cons d cs ih =>
    cases h with | cons h hs =>
    cases i with
    | zero => exact .cons hc hs
    | succ i => exact .cons h (ih hs)
theorem RelL.append {cs ds : List AV} {vs ws : List Value} (h : RelL R ρ cs vs) (h' : RelL R ρ ds ws) : RelL R ρ (cs ++ ds) (vs ++ ws) := by
  induction cs generalizing vs with
  | nil => cases h; exact h'
  | cons c cs ih => cases h with | cons h hs => exact .cons h (ih hs)
theorem RelL.drop {cs : List AV} {vs : List Value} (n : Nat) (h : RelL R ρ cs vs) : RelL R ρ (cs.drop n) (vs.drop n) := by
  induction n generalizing cs vs with
  | zero => exact h
  | succ n ih => cases h with
    | nil => exact .nil
    | cons h hs => exact ih hs
theorem RelL.take {cs : List AV} {vs : List Value} (n : Nat) (h : RelL R ρ cs vs) : RelL R ρ (cs.take n) (vs.take n) := by
  induction n generalizing cs vs with
  | zero => exact .nil
  | succ n ih => cases h with
    | nil => exact .nil
    | cons h hs => exact .cons h (ih hs)
theorem RelL.rep {c : AV} {v : Value} (h : Rel R ρ c v) (n : Nat) : RelL R ρ (List.replicate n c) (List.replicate n v) := by
  induction n with
  | zero => exact .nil
  | succ n ih => exact .cons h ih
end

/-- What a literal stands for. -/
def AV.ofCell : Value → AV
  | .bool b => .bool true b
  | .int k n => .int k true n
  | v => .raw v
def AV.ofCells : List Value → List AV
  | [] => []
  | v :: r => .ofCell v :: ofCells r
def AV.ofValue : Value → AV
  | .agg cs => .agg (ofCells cs.toList)
  | v => .ofCell v
theorem Rel.ofCell {ρ : Nums} (v : Value) : Rel R ρ (.ofCell v) v := by
  cases v <;> unfold AV.ofCell <;> first | exact .bool | exact .int | exact .raw
theorem RelL.ofCells {ρ : Nums} : ∀ l : List Value, RelL R ρ (AV.ofCells l) l
  | [] => .nil
  | v :: r => .cons (Rel.ofCell v) (RelL.ofCells r)
theorem Rel.ofValue {ρ : Nums} (v : Value) : Rel R ρ (.ofValue v) v := by
  cases v with
  | agg cs => exact .agg (vs := cs.toList) (RelL.ofCells _)
  | _ => unfold AV.ofValue; exact Rel.ofCell _

/-- The cells of a value. -/
def AV.cells : AV → Option (List AV)
  | .agg cs => some cs
  | .raw (.agg _) => none
  | .raw (.tuple _) => none
  | .tuple _ => none
  | .junk => none
  | v => some [v]
theorem Rel.cells {ρ : Nums} {v : AV} {V : Value} {cs : List AV} (h : Rel R ρ v V) (hc : v.cells = some cs) : RelL R ρ cs V.cells.toList := by
  cases h with
  | agg h => simp [AV.cells] at hc; subst hc; simpa [Value.cells] using h
  | tuple h => simp [AV.cells] at hc
  | raw =>
    cases V <;> simp [AV.cells] at hc <;> subst hc <;> exact .cons .raw .nil
  | bool => simp [AV.cells] at hc; subst hc; exact .cons .bool .nil
  | int => simp [AV.cells] at hc; subst hc; exact .cons .int .nil
  | bv h => simp [AV.cells] at hc; subst hc; exact .cons (.bv h) .nil
  | ptr h => simp [AV.cells] at hc; subst hc; exact .cons (.ptr h) .nil
  | slice h => simp [AV.cells] at hc; subst hc; exact .cons (.slice h) .nil
  | func h => simp [AV.cells] at hc; subst hc; exact .cons (.func h) .nil
  | rsl h hle => simp [AV.cells] at hc; subst hc; exact .cons (.rsl h hle) .nil
  | rptr h ha hi => simp [AV.cells] at hc; subst hc; exact .cons (.rptr h ha hi) .nil
  | gsl h hn hz hm => simp [AV.cells] at hc; subst hc; exact .cons (.gsl h hn hz hm) .nil
  | gptr h => simp [AV.cells] at hc; subst hc; exact .cons (.gptr h) .nil
  | mp h => simp [AV.cells] at hc; subst hc; exact .cons (.mp h) .nil
  | junk => simp [AV.cells] at hc

/-- Values of one cell each. -/
def AV.one : AV → Bool
  | .agg _ | .tuple _ | .junk => false
  | .raw v => v.oneCell'
  | _ => true
theorem Rel.one {ρ : Nums} {v : AV} {V : Value} (h : Rel R ρ v V) (h1 : v.one = true) : V.oneCell' = true := by
  cases h <;> first | rfl | exact h1 | simp [AV.one] at h1

/-- A value of numbers alone. -/
def AV.val? : AV → Option Value
  | .bool _ b => some (.bool b)
  | .int k _ n => some (.int k n)
  | .bv k a => if k.signed then none else some (.int k (a.toNat : Int))
  | .raw v => some v
  | _ => none
def AV.vals? : List AV → Option (List Value)
  | [] => some []
  | c :: r => match c.val?, vals? r with
    | some v, some vs => some (v :: vs)
    | _, _ => none
def AV.plain? : AV → Option Value
  | .agg cs => (AV.vals? cs).map fun l => .agg l.toArray
  | v => v.val?
def AV.plains? : List AV → Option (List Value)
  | [] => some []
  | c :: r => match c.plain?, plains? r with
    | some v, some vs => some (v :: vs)
    | _, _ => none
/-- What a result without addresses stands for. -/
def AV.told? : AV → Option Value
  | .tuple cs => (AV.plains? cs).map fun l => .tuple l.toArray
  | v => v.plain?
theorem Rel.val {ρ : Nums} {v : AV} {V W : Value} (h : Rel R ρ v V) (hv : v.val? = some W) : V = W := by
  cases h <;> simp [AV.val?] at hv <;> first | exact hv | exact hv.2
theorem RelL.vals {ρ : Nums} : ∀ {v : List AV} {V W : List Value}, RelL R ρ v V → AV.vals? v = some W → V = W
  | [], _, _, .nil, hv => by simp [AV.vals?] at hv; exact hv.symm
  | c :: r, _, W, .cons h hs, hv => by
    unfold AV.vals? at hv
    split at hv
    · rename_i e1 e2
      cases hv
      rw [h.val e1, hs.vals e2]
    · cases hv
theorem Rel.plain {ρ : Nums} {v : AV} {V W : Value} (h : Rel R ρ v V) (hv : v.plain? = some W) : V = W := by
  cases h with
  | agg h =>
    simp only [AV.plain?, Option.map_eq_some_iff] at hv
    obtain ⟨l, h1, h2⟩ := hv
    rw [← h2, h.vals h1]
  | @bool l b => exact Rel.val (R := R) (ρ := ρ) (v := .bool l b) .bool hv
  | @int k l n => exact Rel.val (R := R) (ρ := ρ) (v := .int k l n) .int hv
  | bv h => exact Rel.val (R := R) (ρ := ρ) (.bv h) hv
  | raw => exact Rel.val (R := R) (ρ := ρ) .raw hv
  | ptr h => cases hv
  | slice h => cases hv
  | func h => cases hv
  | rsl h hc => cases hv
  | rptr h ha hi => cases hv
  | gsl h hn hz hm => cases hv
  | gptr h => cases hv
  | mp h => cases hv
  | junk => cases hv
  | tuple h => cases hv
theorem RelL.plains {ρ : Nums} : ∀ {v : List AV} {V W : List Value}, RelL R ρ v V → AV.plains? v = some W → V = W
  | [], _, _, .nil, hv => by simp [AV.plains?] at hv; exact hv.symm
  | c :: r, _, W, .cons h hs, hv => by
    unfold AV.plains? at hv
    split at hv
    · rename_i e1 e2
      cases hv
      rw [h.plain e1, hs.plains e2]
    · cases hv
theorem Rel.told {ρ : Nums} {v : AV} {V W : Value} (h : Rel R ρ v V) (hv : v.told? = some W) : V = W := by
  cases h with
  | tuple h =>
    simp only [AV.told?, Option.map_eq_some_iff] at hv
    obtain ⟨l, h1, h2⟩ := hv
    rw [← h2, h.plains h1]
  | @bool l b => exact Rel.plain (R := R) (ρ := ρ) (v := .bool l b) .bool hv
  | @int k l n => exact Rel.plain (R := R) (ρ := ρ) (v := .int k l n) .int hv
  | bv h => exact Rel.plain (R := R) (ρ := ρ) (.bv h) hv
  | raw => exact Rel.plain (R := R) (ρ := ρ) .raw hv
  | agg h => exact Rel.plain (R := R) (ρ := ρ) (.agg h) hv
  | ptr h => cases hv
  | slice h => cases hv
  | func h => cases hv
  | rsl h hc => cases hv
  | rptr h ha hi => cases hv
  | gsl h hn hz hm => cases hv
  | gptr h => cases hv
  | mp h => cases hv
  | junk => cases hv

mutual
theorem Rel.of_val {ρ : Nums} {v : AV} {V : Value} (h : v.val? = some V) : Rel R ρ v V := by
  cases v <;> simp only [AV.val?] at h <;> try cases h
  · exact .bool
  · exact .int
  · split at h
    · cases h
    · cases h; rename_i hs; exact .bv (by simpa using hs)
  · exact .raw
end
theorem RelL.of_vals {ρ : Nums} : ∀ {v : List AV} {V : List Value}, AV.vals? v = some V → RelL R ρ v V
  | [], _, h => by simp [AV.vals?] at h; subst h; exact .nil
  | c :: r, V, h => by
    unfold AV.vals? at h
    split at h
    · rename_i e1 e2; cases h; exact .cons (Rel.of_val e1) (RelL.of_vals e2)
    · cases h

/- Maps: keys are numbers side by side, values cells. -/
def cellsK (ks : List IntKind) (xs : List Int) : List Value := List.zipWith Value.int ks xs
/-- Kinds of the cells of a map's values. -/
inductive CK where
  | bool
  | int (k : IntKind)
  | bv (k : IntKind)
/-- What a map holds: kinds of a key's numbers; are the values of many cells; kinds of their cells; what it has. -/
structure MapI where
  ks : List IntKind
  g : Bool
  cs : List CK
  E : List (List Int × List Value)
def decC : CK → Value → AV
  | .bool, v => .bool false (match v with | .bool b => b | _ => false)
  | .int k, v => .int k false (match v with | .int _ n => n | _ => 0)
  | .bv k, v => .bv k (match v with | .int _ n => BitVec.ofInt k.bits n | _ => 0)
def decL : List CK → List Value → List AV
  | [], _ => []
  | c :: cs, vs => decC c (vs.headD undef) :: decL cs vs.tail
def decM (g : Bool) (cs : List CK) (vs : List Value) : AV := bif g then .agg (decL cs vs) else match cs with
  | [c] => decC c (vs.headD undef)
  | _ => .raw undef
def wfC : CK → Value → Bool
  | .bool, .bool _ => true
  | .int k, .int k' _ => decide (k = k')
  | .bv k, .int k' n => decide (k' = k) && !k.signed && decide (0 ≤ n ∧ n < 2 ^ k.bits)
  | _, _ => false
def wfL : List CK → List Value → Bool
  | [], [] => true
  | c :: cs, v :: vs => wfC c v && wfL cs vs
  | _, _ => false
def fitC : CK → AV → Bool
  | .bool, .bool _ _ => true
  | .int k, .int k' _ _ => decide (k = k')
  | .int k, .bv k' _ => decide (k = k')
  | .bv k, .bv k' _ => decide (k' = k) && !k.signed
  | .bv k, .int k' true n => decide (k' = k) && !k.signed && decide (0 ≤ n ∧ n < 2 ^ k.bits)
  | c, .raw v => wfC c v
  | _, _ => false
def fitL : List CK → List AV → Bool
  | [], [] => true
  | c :: cs, v :: vs => fitC c v && fitL cs vs
  | _, _ => false
def valV (g : Bool) (vs : List Value) : Value := bif g then .agg vs.toArray else vs.headD undef
def keyV (ks : List IntKind) (ns : List Int) : Value := .agg (cellsK ks ns).toArray
def lookM (ns : List Int) : List (List Int × List Value) → Option (List Value)
  | [] => none
  | (k, v) :: r => bif k == ns then some v else lookM ns r
def putM (ns : List Int) (v : List Value) : List (List Int × List Value) → List (List Int × List Value)
  | [] => [(ns, v)]
  | (k, u) :: r => bif k == ns then (k, v) :: r else (k, u) :: putM ns v r
/-- The map's entries as they lie. -/
structure MapOK (m : MapI) (es : Array MapEntry) (clock : Nat) : Prop where
  ent : es.toList.map (fun e => (e.key, e.val)) = m.E.map fun p => (keyV m.ks p.1, valV m.g p.2)
  keys : ∀ p ∈ m.E, p.1.length = m.ks.length
  nodup : m.E.Pairwise fun p q => p.1 ≠ q.1
  vals : ∀ p ∈ m.E, wfL m.cs p.2 = true
  one : m.g = true ∨ ∃ c, m.cs = [c]
  born : es.toList.Pairwise fun p q => p.born < q.born
  clock : ∀ e ∈ es.toList, e.born < clock
theorem decC_val {c : CK} {v : Value} (h : wfC c v = true) : (decC c v).val? = some v := by
  cases c <;> cases v <;> simp only [wfC, Bool.false_eq_true, decide_eq_true_eq, Bool.and_eq_true, Bool.not_eq_true'] at h
  · rfl
  · subst h; rfl
  · obtain ⟨⟨rfl, h2⟩, h3⟩ := h
    rename_i k n
    simp only [decC, AV.val?, h2, Bool.false_eq_true, if_false, Option.some.injEq, Value.int.injEq, true_and]
    rw [BitVec.toNat_ofInt, Int.toNat_of_nonneg (Int.emod_nonneg _ (by exact_mod_cast Nat.ne_of_gt (Nat.two_pow_pos _)))]
    exact Int.emod_eq_of_lt h3.1 (by exact_mod_cast h3.2)
theorem decL_vals : ∀ {cs : List CK} {vs : List Value}, wfL cs vs = true → AV.vals? (decL cs vs) = some vs
  | [], [], _ => rfl
  | [], _ :: _, h => by cases h
  | _ :: _, [], h => by cases h
  | c :: cs, v :: vs, h => by
    unfold wfL at h
    rw [Bool.and_eq_true] at h
    have h1 := decC_val h.1
    have h2 := decL_vals h.2
    simp [decL, AV.vals?, h1, h2]
theorem dec_rel {ρ : Nums} {g : Bool} {cs : List CK} {vs : List Value} (h : wfL cs vs = true) (ho : g = true ∨ ∃ c, cs = [c]) : Rel R ρ (decM g cs vs) (valV g vs) := by
  cases g
  · rcases ho with ho | ⟨c, rfl⟩
    · cases ho
    · cases vs with
      | nil => cases h
      | cons v r =>
        unfold wfL at h
        rw [Bool.and_eq_true] at h
        exact Rel.of_val (decC_val h.1)
  · exact .agg (RelL.of_vals (decL_vals h))
theorem fitC_wf {c : CK} {a : AV} {v : Value} (h : fitC c a = true) (hv : a.val? = some v) : wfC c v = true := by
  cases c <;> cases a <;> simp only [fitC, Bool.false_eq_true, decide_eq_true_eq] at h <;> simp only [AV.val?] at hv <;> try (cases hv; done)
  · cases hv; rfl
  · cases hv; exact h
  · cases hv; simpa [wfC] using h
  · split at hv
    · cases hv
    · cases hv; simpa [wfC] using h
  · cases hv; exact h
  · rename_i k k' l n
    cases l <;> simp only [fitC, Bool.false_eq_true] at h
    cases hv; simpa [wfC] using h
  · rename_i k k' a
    split at hv
    · cases hv
    · cases hv
      simp only [Bool.and_eq_true, decide_eq_true_eq, Bool.not_eq_true'] at h
      obtain ⟨rfl, h2⟩ := h
      have := a.isLt
      simp only [wfC, h2, decide_true, Bool.not_false, Bool.and_self, Bool.true_and, decide_eq_true_eq]
      exact ⟨by omega, by exact_mod_cast this⟩
  · cases hv; exact h
theorem fitL_wf : ∀ {cs : List CK} {xs : List AV} {vs : List Value}, fitL cs xs = true → AV.vals? xs = some vs → wfL cs vs = true
  | [], [], _, _, h => by simp [AV.vals?] at h; subst h; rfl
  | [], _ :: _, _, h, _ => by cases h
  | _ :: _, [], _, h, _ => by cases h
  | c :: cs, a :: xs, vs, h, hv => by
    unfold fitL at h
    rw [Bool.and_eq_true] at h
    unfold AV.vals? at hv
    split at hv
    · rename_i e1 e2; cases hv
      unfold wfL
      rw [fitC_wf h.1 e1, fitL_wf h.2 e2]; rfl
    · cases hv
theorem lookM_mem {ns : List Int} {v : List Value} : ∀ {E : List (List Int × List Value)}, lookM ns E = some v → (ns, v) ∈ E
  | [], h => by cases h
  | (k, u) :: r, h => by
    unfold lookM at h
    cases hb : (k == ns) <;> simp only [hb, cond_true, cond_false] at h
    · exact List.mem_cons_of_mem _ (lookM_mem h)
    · cases h; rw [eq_of_beq hb]; exact List.mem_cons_self ..
theorem putM_mem {ns : List Int} {v : List Value} {p : List Int × List Value} : ∀ {E : List (List Int × List Value)}, p ∈ putM ns v E → p ∈ E ∨ p = (ns, v)
  | [], h => .inr (List.mem_singleton.1 h)
  | (k, u) :: r, h => by
    unfold putM at h
    cases hb : (k == ns) <;> simp only [hb, cond_true, cond_false] at h
    · rcases List.mem_cons.1 h with rfl | h
      · exact .inl (List.mem_cons_self ..)
      · rcases putM_mem h with h | h
        · exact .inl (List.mem_cons_of_mem _ h)
        · exact .inr h
    · rcases List.mem_cons.1 h with rfl | h
      · rw [eq_of_beq hb]; exact .inr rfl
      · exact .inl (List.mem_cons_of_mem _ h)
theorem putM_nodup {ns : List Int} {v : List Value} : ∀ {E : List (List Int × List Value)}, (E.Pairwise fun p q => p.1 ≠ q.1) → (putM ns v E).Pairwise fun p q => p.1 ≠ q.1
  | [], _ => List.pairwise_singleton ..
  | (k, u) :: r, h => by
    obtain ⟨h1, h2⟩ := List.pairwise_cons.1 h
    unfold putM
    cases hb : (k == ns) <;> simp only [cond_true, cond_false]
    · refine List.pairwise_cons.2 ⟨fun p hp => ?_, putM_nodup h2⟩
      rcases putM_mem hp with hp | rfl
      · exact h1 p hp
      · intro e; have e : k = ns := e; rw [e] at hb; simp at hb
    · exact List.pairwise_cons.2 ⟨fun p hp => h1 p hp, h2⟩

/- Memory. -/
/-- What lies at a label: cells; a row of which the first n elements are known (own: it may be written; else its block may be that of label o); a map; nothing that is known. -/
inductive AIt where
  | cells (cs : List AV) (t : TypeId)
  | row (n s : Nat) (F : Nat → List AV) (t : TypeId) (own : Option Nat)
  | map (m : MapI)
  | gone
abbrev Mem := List AIt
def AIt.live : AIt → Bool
  | .gone => false
  | _ => true
/-- Through which label it is written. -/
def AIt.owner (l : Nat) : AIt → Nat
  | .row _ _ _ _ (some o) => o
  | _ => l
/-- A block as it is: number, size of an element, object. -/
structure RBlk where
  b : Nat
  s : Nat
  o : Obj
def cntO : Obj → Nat
  | .cells c _ _ => c.size
  | _ => 0
def RBlk.num (p : RBlk) : Num := ⟨p.b, p.s, cntO p.o⟩
def nums (Hr : List RBlk) : Nums := Hr.map RBlk.num
/-- Elements i < n of a row, s cells each. -/
def RowAt (n s : Nat) (F : Nat → List AV) (cur : Array Value) : Prop := ∀ i, i < n → ∃ V, AV.vals? (F i) = some V ∧ V.length = s ∧ (∀ v ∈ V, v.oneCell' = true) ∧ ∀ q u, V[q]? = some u → cur[i * s + q]? = some u
inductive RelI (R : Rws) (ρ : Nums) : AIt → RBlk → Prop
  | cells {cs Cs t b s} (h : RelL R ρ cs Cs) : RelI R ρ (.cells cs t) ⟨b, s, .cells Cs.toArray t (0, 0)⟩
  | row {n s F t own b cur c} (h : RowAt n s F cur) (hc : cur.size = c * s) (hn : n ≤ c) (hm : c ≤ maxLen) (hs : 0 < s) : RelI R ρ (.row n s F t own) ⟨b, s, .cells cur t (0, 0)⟩
  | map {m b s es clock} (h : MapOK m es clock) : RelI R ρ (.map m) ⟨b, s, .map es clock⟩
  | gone {p} : RelI R ρ .gone p
def RelB (R : Rws) (ρ : Nums) (H : Mem) (Hr : List RBlk) : Prop := Hr.length = H.length ∧ ∀ (l : Nat) it p, H[l]? = some it → Hr[l]? = some p → RelI R ρ it p
theorem RelI.grow {ρ : Nums} (σ : Nums) {it : AIt} {p : RBlk} (h : RelI R ρ it p) : RelI R (ρ ++ σ) it p := by
  cases h with
  | cells h => exact .cells (h.grow σ)
  | row h hc hn hm hs => exact .row h hc hn hm hs
  | map h => exact .map h
  | gone => exact .gone
theorem RelB.grow {ρ : Nums} (σ : Nums) {H : Mem} {Hr : List RBlk} (h : RelB R ρ H Hr) : RelB R (ρ ++ σ) H Hr := ⟨h.1, fun l it p h1 h2 => (h.2 l it p h1 h2).grow σ⟩
theorem RelB.len {ρ : Nums} {H : Mem} {Hr : List RBlk} (h : RelB R ρ H Hr) : Hr.length = H.length := h.1
theorem RelB.at {ρ : Nums} {H : Mem} {Hr : List RBlk} (h : RelB R ρ H Hr) {l : Nat} {it : AIt} (hl : H[l]? = some it) : ∃ p, Hr[l]? = some p ∧ RelI R ρ it p := by
  have hlt : l < Hr.length := by rw [h.1]; exact (List.getElem?_eq_some_iff.1 hl).1
  exact ⟨_, List.getElem?_eq_getElem hlt, h.2 l it _ hl (List.getElem?_eq_getElem hlt)⟩
theorem RelB.get {ρ : Nums} {H : Mem} {Hr : List RBlk} (h : RelB R ρ H Hr) {l : Nat} {cs : List AV} {t : TypeId} (hl : H[l]? = some (.cells cs t)) : ∃ b s Cs, Hr[l]? = some ⟨b, s, .cells Cs.toArray t (0, 0)⟩ ∧ RelL R ρ cs Cs := by
  obtain ⟨p, h1, h2⟩ := h.at hl
  cases h2 with | cells h2 =>
  exact ⟨_, _, _, h1, h2⟩
theorem RelB.nil {ρ : Nums} : RelB R ρ [] [] := ⟨rfl, fun l it p h => by simp at h⟩
theorem RelB.snoc {ρ : Nums} {H : Mem} {Hr : List RBlk} (h : RelB R ρ H Hr) {it : AIt} {p : RBlk} (hi : RelI R ρ it p) : RelB R ρ (H ++ [it]) (Hr ++ [p]) := by
  refine ⟨by simp [h.1], fun l it' p' h1 h2 => ?_⟩
  rcases Nat.lt_trichotomy l H.length with hlt | heq | hgt
  · rw [List.getElem?_append_left hlt] at h1
    rw [List.getElem?_append_left (by rw [h.1]; exact hlt)] at h2
    exact h.2 l _ _ h1 h2
  · subst heq
    rw [List.getElem?_append_right (Nat.le_refl _), Nat.sub_self] at h1
    rw [List.getElem?_append_right (by rw [h.1]; exact Nat.le_refl _), h.1, Nat.sub_self] at h2
    cases h1; cases h2; exact hi
  · rw [List.getElem?_eq_none (by simp; omega)] at h1
    cases h1
theorem RelB.set {ρ : Nums} {H : Mem} {Hr : List RBlk} (h : RelB R ρ H Hr) {l : Nat} {it : AIt} {p : RBlk} (hi : RelI R ρ it p) : RelB R ρ (H.set l it) (Hr.set l p) := by
  refine ⟨by simp [h.1], fun k it' p' h1 h2 => ?_⟩
  by_cases e : l = k
  · subst e
    have hl : l < H.length := by have := (List.getElem?_eq_some_iff.1 h1).1; simpa using this
    rw [List.getElem?_set_self hl] at h1
    rw [List.getElem?_set_self (by rw [h.1]; exact hl)] at h2
    cases h1; cases h2; exact hi
  · rw [List.getElem?_set_ne e] at h1 h2
    exact h.2 k _ _ h1 h2
/-- Nothing is known of these labels any more. -/
def dropI (f : Nat → AIt → Bool) (H : Mem) : Mem := H.mapIdx fun l it => bif f l it then .gone else it
theorem dropI_get {f : Nat → AIt → Bool} {H : Mem} {l : Nat} {it : AIt} (h : (dropI f H)[l]? = some it) : ∃ it0, H[l]? = some it0 ∧ it = bif f l it0 then .gone else it0 := by
  unfold dropI at h
  rw [List.getElem?_mapIdx, Option.map_eq_some_iff] at h
  obtain ⟨it0, h1, h2⟩ := h
  exact ⟨it0, h1, h2.symm⟩
theorem RelB.dropI {ρ : Nums} {H : Mem} {Hr : List RBlk} (h : RelB R ρ H Hr) (f : Nat → AIt → Bool) : RelB R ρ (dropI f H) Hr := by
  refine ⟨by simp [Go.Proofs.Ytjbleblllmbcbaa.dropI, h.1], fun l it p h1 h2 => ?_⟩
  obtain ⟨it0, h3, rfl⟩ := dropI_get h1
  cases f l it0
  · exact h.2 l it0 p h3 h2
  · exact .gone
theorem nums_snoc (Hr : List RBlk) (p : RBlk) : nums (Hr ++ [p]) = nums Hr ++ [p.num] := by simp [nums]
theorem nums_get {Hr : List RBlk} {l : Nat} {p : RBlk} (h : Hr[l]? = some p) : (nums Hr)[l]? = some p.num := by simp [nums, h]
theorem nums_at {Hr : List RBlk} {l : Nat} {q : Num} (h : (nums Hr)[l]? = some q) : ∃ p, Hr[l]? = some p ∧ q = p.num := by
  simp only [nums, List.getElem?_map, Option.map_eq_some_iff] at h
  obtain ⟨p, h1, h2⟩ := h
  exact ⟨p, h1, h2.symm⟩
theorem nums_set {Hr : List RBlk} {l : Nat} {p p' : RBlk} (h : Hr[l]? = some p) (hp : p'.num = p.num) : nums (Hr.set l p') = nums Hr := by
  apply List.ext_getElem?
  intro i
  simp only [nums, List.getElem?_map, List.getElem?_set]
  split
  · rename_i e; subst e
    split
    · rw [h]; simp [hp]
    · rename_i hl
      rw [List.getElem?_eq_none (by omega)]
  · rfl
/-- What is known lies there. -/
def OwnM (H : Mem) (Hr : List RBlk) (w : World) : Prop := ∀ (l : Nat) it p, H[l]? = some it → Hr[l]? = some p → p.b < w.heap.size ∧ (it.live = true → w.heap[p.b]? = some p.o)
/-- Two labels have one block only if it is written through one label. -/
def Apart (H : Mem) (Hr : List RBlk) : Prop := ∀ (l m : Nat) it jt p q, l ≠ m → H[l]? = some it → H[m]? = some jt → it.live = true → jt.live = true → Hr[l]? = some p → Hr[m]? = some q → p.b = q.b → it.owner l = jt.owner m
theorem OwnM.nil (w : World) : OwnM [] [] w := fun l it p h => by simp at h
theorem Apart.nil : Apart [] [] := fun l m it jt p q _ h => by simp at h
theorem OwnM.grow {H : Mem} {Hr : List RBlk} {w w' : World} (h : OwnM H Hr w) (hb : Below w.heap.size w w') : OwnM H Hr w' := fun l it p h1 h2 =>
  let ⟨a, b⟩ := h l it p h1 h2
  ⟨Nat.lt_of_lt_of_le a hb.size, fun hl => (hb.block p.b a).trans (b hl)⟩
end Go.Proofs.Ytjbleblllmbcbaa
