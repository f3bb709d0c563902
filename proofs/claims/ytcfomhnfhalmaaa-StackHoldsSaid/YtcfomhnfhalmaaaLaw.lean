/- How the arguments of a law are opened, and that they read afterwards as they read before. No program of its own. No condition. -/
import Derived.Test.YtcfomhnfhalmaaaKit
import Derived.WalkKit
import Derived.ProofKit
import Derived.OpenShut
set_option linter.unusedVariables false
set_option linter.unusedSimpArgs false
namespace Go.Proofs.Ytcfomhnfhalmaaa
open Go.RowKit Go.ChangeShapes Go.WideShapes Go.ChangeAt

/-- A cell of a plain kind: a number of this kind; none: a truth. -/
def Leaf : Option IntKind → Value → Prop
  | some k, v => ∃ x : Int, v = .int k x ∧ (Lit.int k x).wf = true
  | none, v => ∃ b : Bool, v = .bool b
def Leaves : List (Option IntKind) → List Value → Prop
  | [], [] => True
  | k :: ks, v :: vs => Leaf k v ∧ Leaves ks vs
  | _, _ => False
theorem Leaves.cons {k : Option IntKind} {ks : List (Option IntKind)} {vs : List Value} (h : Leaves (k :: ks) vs) : ∃ v r, vs = v :: r ∧ Leaf k v ∧ Leaves ks r := by
  cases vs with
  | nil => exact h.elim
  | cons v r => exact ⟨v, r, rfl, h.1, h.2⟩
theorem Leaves.nil {vs : List Value} (h : Leaves [] vs) : vs = [] := by
  cases vs with
  | nil => rfl
  | cons v r => exact h.elim
theorem Leaves.app : ∀ {a b : List (Option IntKind)} {u v : List Value}, Leaves a u → Leaves b v → Leaves (a ++ b) (u ++ v)
  | [], b, [], v, _, h => h
  | k :: a, b, x :: u, v, h, h' => ⟨h.1, Leaves.app h.2 h'⟩
  | [], _, _ :: _, _, h, _ => h.elim
  | _ :: _, _, [], _, h, _ => h.elim
theorem Leaves.len : ∀ {a : List (Option IntKind)} {u : List Value}, Leaves a u → u.length = a.length
  | [], [], _ => rfl
  | k :: a, x :: u, h => by simp [Leaves.len h.2]
  | [], _ :: _, h => h.elim
  | _ :: _, [], h => h.elim

/-- The cells of fields that lie one behind the other. -/
def flatFs (P : Program) (g : TypeId → Option (List (Option IntKind))) : List Field → Nat → Option (List (Option IntKind))
  | [], _ => some []
  | f :: fs, off => (g f.type).bind fun a => if f.offset = off ∧ a.length = P.cellsOf f.type then (flatFs P g fs (off + a.length)).map (a ++ ·) else none
/-- The cells of a type of plain kinds. -/
def flatK (P : Program) : Nat → TypeId → Option (List (Option IntKind))
  | 0, _ => none
  | n + 1, t => match P.underlying t with
    | some (.int k) => some [some k]
    | some .bool => some [none]
    | some (.array m e) => (flatK P n e).bind fun a => if a.length = P.cellsOf e ∧ m * a.length = P.cellsOf t then some (List.replicate m a).flatten else none
    | some (.struct fs) => (flatFs P (flatK P n) fs.toList 0).bind fun a => if a.length = P.cellsOf t then some a else none
    | _ => none

section
variable {H : Type} {enc : TypeId × Value → H} {P : Program} {w : World} {base : Nat} {sp : Nat → Bool} {held : Bool}

theorem rep_leaves {a : List (Option IntKind)} : ∀ (m : Nat) (cs : List Value), cs.length = m * a.length → (∀ i, i < m → Leaves a ((cs.drop (i * a.length)).take a.length)) → Leaves (List.replicate m a).flatten cs
  | 0, cs, hl, _ => by
    have : cs = [] := List.length_eq_zero_iff.1 (by simpa using hl)
    subst this; trivial
  | m + 1, cs, hl, h => by
    have h0 := h 0 (by omega)
    simp only [Nat.zero_mul, List.drop_zero] at h0
    have hm : (m + 1) * a.length = a.length + m * a.length := by rw [Nat.succ_mul]; omega
    have ih := rep_leaves (a := a) m (cs.drop a.length) (by rw [List.length_drop, hl, hm]; omega) (fun i hi => by
      have := h (i + 1) (by omega)
      rw [List.drop_drop]
      rwa [show (i + 1) * a.length = a.length + i * a.length by rw [Nat.succ_mul]; omega] at this)
    rw [List.replicate_succ, List.flatten_cons, ← List.take_append_drop a.length cs]
    exact h0.app ih

theorem fs_leaves {g : TypeId → Option (List (Option IntKind))} {tr : TypeId → List Value → Option (DataW H × List MemPlace)} {cs : List Value}
    (hg : ∀ t a us x, g t = some a → tr t us = some x → Leaves a us ∧ x.2 = []) : ∀ (fs : List Field) (off : Nat) (a : List (Option IntKind)) (xs : List (DataW H × List MemPlace)), flatFs P g fs off = some a →
      off + a.length ≤ cs.length → xs.length = fs.length → (∀ (i : Nat) (f : Field), fs[i]? = some f → tr f.type ((cs.drop f.offset).take (P.cellsOf f.type)) = xs[i]?) → Leaves a ((cs.drop off).take a.length) ∧ xs.flatMap (·.2) = []
  | [], off, a, xs, h, _, hx, _ => by
    simp [flatFs] at h; subst h
    have : xs = [] := List.length_eq_zero_iff.1 (by simpa using hx)
    subst this
    exact ⟨by simp; trivial, rfl⟩
  | f :: fs, off, a, xs, h, hl, hx, ht => by
    simp only [flatFs, Option.bind_eq_some_iff] at h
    obtain ⟨b, hb, h⟩ := h
    split at h
    · rename_i hc
      obtain ⟨ho, hlen⟩ := hc
      simp only [Option.map_eq_some_iff] at h
      obtain ⟨c, hc, rfl⟩ := h
      cases xs with
      | nil => simp at hx
      | cons x xs =>
        have h0 := ht 0 f rfl
        rw [ho, ← hlen] at h0
        obtain ⟨l0, p0⟩ := hg _ _ _ x hb (by simpa using h0)
        simp only [List.length_append] at hl
        obtain ⟨l1, p1⟩ := fs_leaves (cs := cs) hg fs (off + b.length) c xs hc (by omega) (by simpa using hx) (fun i q hq => by simpa using ht (i + 1) q (by simpa using hq))
        refine ⟨?_, by simp [p0, p1]⟩
        have e : (cs.drop off).take (b ++ c).length = (cs.drop off).take b.length ++ (cs.drop (off + b.length)).take c.length := by
          rw [List.length_append, List.take_add, List.drop_drop]
        rw [e]
        exact l0.app l1
    · cases h

theorem flat_open : ∀ (n : Nat) (t : TypeId) (a : List (Option IntKind)) (fuel : Nat) (cs : List Value) (x : DataW H × List MemPlace), flatK P n t = some a → DataW.trod enc P w base sp held fuel t cs = some x → Leaves a cs ∧ x.2 = []
  | 0, t, a, fuel, cs, x, h, _ => by simp [flatK] at h
  | n + 1, t, a, fuel, cs, x, h, hx => by
    unfold flatK at h
    split at h
    · rename_i k hu
      simp at h; subst h
      cases fuel with
      | zero => simp [DataW.trod] at hx
      | succ m =>
        unfold DataW.trod at hx
        rw [hu] at hx
        split at hx <;> simp_all
        obtain ⟨⟨rfl, hw⟩, rfl⟩ := hx
        exact ⟨⟨⟨_, rfl, hw⟩, trivial⟩, rfl⟩
    · rename_i hu
      simp at h; subst h
      cases fuel with
      | zero => simp [DataW.trod] at hx
      | succ m =>
        unfold DataW.trod at hx
        rw [hu] at hx
        split at hx <;> simp_all
        subst hx
        exact ⟨⟨⟨_, rfl⟩, trivial⟩, rfl⟩
    · rename_i m e hu
      simp only [Option.bind_eq_some_iff] at h
      obtain ⟨b, hb, h⟩ := h
      split at h
      · rename_i hc
        simp at h; subst h
        obtain ⟨xs, q, rfl, rfl, hl, hxs, hi⟩ := DataW.trod_array hu hx
        have hall : ∀ i, i < m → ∃ y, xs[i]? = some y ∧ Leaves b ((cs.drop (i * b.length)).take b.length) ∧ y.2 = [] := fun i him => by
          have h1 := hi i him
          obtain ⟨y, hy⟩ : ∃ y, xs[i]? = some y := ⟨_, List.getElem?_eq_getElem (by omega)⟩
          rw [hy, ← hc.1] at h1
          exact ⟨y, hy, flat_open n e b q _ y hb h1⟩
        refine ⟨rep_leaves m cs (by rw [hl, ← hc.2]) fun i him => by obtain ⟨y, _, h2, _⟩ := hall i him; exact h2, ?_⟩
        show xs.flatMap (·.2) = []
        rw [List.flatMap_eq_nil_iff]
        intro y hy
        obtain ⟨i, hi2⟩ := List.getElem?_of_mem hy
        have hlt := (List.getElem?_eq_some_iff.1 hi2).1
        obtain ⟨y', hy', _, h3⟩ := hall i (by omega)
        rw [hi2] at hy'
        rw [Option.some.inj hy']; exact h3
      · cases h
    · rename_i fs hu
      simp only [Option.bind_eq_some_iff] at h
      obtain ⟨b, hb, h⟩ := h
      split at h
      · rename_i hc
        simp at h; subst h
        obtain ⟨xs, q, rfl, rfl, hl, hxs, hi⟩ := DataW.trod_struct hu hx
        have := fs_leaves (P := P) (cs := cs) (tr := fun t us => DataW.trod enc P w base sp held q t us) (fun t a us x h1 h2 => flat_open n t a q us x h1 h2) fs.toList 0 b xs hb (by rw [hl, hc]; omega) (by simpa using hxs) (fun i f hf => hi i f (by simpa using hf))
        rw [List.drop_zero, hc, ← hl, List.take_length] at this
        exact this
      · cases h
    · cases h

/-- An argument of plain kinds that has several cells. -/
theorem open_flat {r : Reach} {b0 : Nat} {t : TypeId} {v : Value} {d : DataW H} {p : List MemPlace} {a : List (Option IntKind)} (n : Nat) (ha : flatK P n t = some a)
    (hs : (match P.underlying t with | some (.struct _) | some (.array _ _) => true | _ => false) = true) (hv : Value.okWide P w r b0 t v) (h : DataW.Trod enc P w base sp held t v d p) : ∃ cs : List Value, v = .agg cs.toArray ∧ Leaves a cs := by
  obtain ⟨fuel, hf⟩ := h
  unfold Value.okWide at hv
  have : ∃ cs, v = .agg cs := by
    split at hv
    · obtain ⟨cs, rfl, _⟩ := hv; exact ⟨cs, rfl⟩
    · obtain ⟨cs, rfl, _⟩ := hv; exact ⟨cs, rfl⟩
    · rename_i h1 h2
      split at hs
      · rename_i fs hu; exact absurd hu (h1 fs)
      · rename_i m e hu; exact absurd hu (h2 m e)
      · cases hs
  obtain ⟨cs, rfl⟩ := this
  exact ⟨cs.toList, by simp, (flat_open n t a fuel _ _ ha hf).1⟩

/-- Arguments read behind a call that has made memory as they read before. -/
theorem args_keep (hl : laidOutB P = true) {W W' : World} (hb : Below W.heap.size W W') (sp : Nat → Bool) : ∀ (ts : List TypeId) (vs : List Value) (ds : List (DataW H)) (p : List MemPlace), (∀ t, t ∈ ts → P.readableRec t = true ∧ t < P.types.size) →
    DataW.TrodAll enc P W 0 (fun _ => true) true ts vs ds p → (∀ x, x ∈ p → x.block < W.heap.size) → (∀ x, x ∈ p → sp x.block = true) → DataW.TrodAll enc P W' 0 sp true ts vs ds p
  | [], [], [], p, _, h, _, _ => h
  | t :: ts, v :: vs, d :: ds, p, hr, ⟨p1, q, h1, h2, e⟩, hlt, hsp => by
    subst e
    have := hr t (by simp)
    exact ⟨p1, q, WideElems.Trod_stays hl this.1 this.2 h1 (fun x hx => hb.same (hlt x (by simp [hx]))) (fun x hx => hsp x (by simp [hx])),
      args_keep hl hb sp ts vs ds q (fun t ht => hr t (by simp [ht])) h2 (fun x hx => hlt x (by simp [hx])) (fun x hx => hsp x (by simp [hx])), rfl⟩
  | [], [], _ :: _, _, _, h, _, _ => h.elim
  | [], _ :: _, _, _, _, h, _, _ => h.elim
  | _ :: _, [], _, _, _, h, _, _ => h.elim
  | _ :: _, _ :: _, [], _, _, h, _, _ => h.elim
end
end Go.Proofs.Ytcfomhnfhalmaaa
