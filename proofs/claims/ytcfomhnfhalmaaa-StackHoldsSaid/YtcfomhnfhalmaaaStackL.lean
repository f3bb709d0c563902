/- Slices that are handed in. No program of its own. No condition. -/
import Derived.Test.YtcfomhnfhalmaaaStackJ
set_option linter.unusedVariables false
set_option linter.unusedSimpArgs false
set_option maxRecDepth 100000
namespace Go.Proofs.Ytcfomhnfhalmaaa
open Go.RowKit

/-- A slice that is handed in: n elements of s cells each. -/
def mkRow (A : Option Addr) (n s : Nat) (G : Nat → List AV) : RowI := ⟨A, n, s, fun i => G i.toNat, fun i => (AV.vals? (G i)).getD [], []⟩
def rws (l : List RowI) : Rws := fun j => l[j]?
structure RowFine (r : RowI) : Prop where
  val : ∀ i : Nat, i < r.n → AV.vals? (r.F i) = some (r.V i)
  len : ∀ i, i < r.n → (r.V i).length = r.s
  one : ∀ i, i < r.n → ∀ v ∈ r.V i, v.oneCell' = true
  addr : 0 < r.n → ∃ b off, r.A = some ⟨b, off, none⟩
  sub : r.sub = []
theorem mkRow_fine {A : Option Addr} {n s : Nat} {G : Nat → List AV} (hG : ∀ i, ∃ V, AV.vals? (G i) = some V ∧ V.length = s ∧ ∀ v ∈ V, v.oneCell' = true) (hA : 0 < n → ∃ b off, A = some ⟨b, off, none⟩) : RowFine (mkRow A n s G) := by
  refine ⟨fun i _ => ?_, fun i _ => ?_, fun i _ v hv => ?_, hA, rfl⟩
  · obtain ⟨V, h1, _⟩ := hG i
    show AV.vals? (G ((i : Nat) : Int).toNat) = some ((AV.vals? (G i)).getD [])
    rw [Int.toNat_natCast, h1]; rfl
  · obtain ⟨V, h1, h2, _⟩ := hG i
    show ((AV.vals? (G i)).getD []).length = s
    rw [h1]; exact h2
  · obtain ⟨V, h1, _, h3⟩ := hG i
    have hv : v ∈ (AV.vals? (G i)).getD [] := hv
    rw [h1] at hv
    exact h3 v hv
theorem rws_ok {l : List RowI} (h : ∀ r ∈ l, RowFine r) : RwOK (rws l) := by
  have hm : ∀ {j r}, rws l j = some r → RowFine r := fun {j r} hj => h r (List.mem_of_getElem? hj)
  refine ⟨fun j r hj i hi => (hm hj).val i hi, fun j r hj i hi => (hm hj).len i hi, fun j r hj i hi v hv => (hm hj).one i hi v hv, fun j r hj h0 => (hm hj).addr h0, fun j r hj a j' ha => ?_⟩
  rw [(hm hj).sub] at ha; cases ha
/-- What the slice's cells are. -/
def rowCells (n : Nat) (G : Nat → List AV) : List Value := (List.range n).flatMap fun i => (AV.vals? (G i)).getD []
theorem mkRow_addr {A : Option Addr} {n s : Nat} {G : Nat → List AV} {w : World} (hs : 0 < s) (hG : ∀ i, ∃ V, AV.vals? (G i) = some V ∧ V.length = s ∧ ∀ v ∈ V, v.oneCell' = true) (hS : SlAt w A (rowCells n G)) (h0 : 0 < n) : ∃ b off, A = some ⟨b, off, none⟩ := by
  rcases hS with h | ⟨b, off, rfl, _⟩
  · exfalso
    have hl : (rowCells n G).length = n * s := rng_len fun i _ => by obtain ⟨V, h1, h2, _⟩ := hG i; rw [h1]; exact h2
    rw [h] at hl
    have := Nat.mul_pos h0 hs
    simp at hl; omega
  · exact ⟨b, off, rfl⟩
theorem rws_rd {l : List RowI} {w : World} (h : ∀ r ∈ l, ∃ n s G, r = mkRow r.A n s G ∧ 0 < s ∧ (∀ i, ∃ V, AV.vals? (G i) = some V ∧ V.length = s ∧ ∀ v ∈ V, v.oneCell' = true) ∧ SlAt w r.A (rowCells n G)) : Rd (rws l) [] w := fun j r hj b off hA h0 => by
  obtain ⟨n, s, G, e, hs, hG, hS⟩ := h r (List.mem_of_getElem? hj)
  rw [e] at h0 ⊢
  have h0 : 0 < n := h0
  rw [hA] at hS
  rcases hS with h | ⟨b', off', hA', hb, hc⟩
  · exfalso
    have hl : (rowCells n G).length = n * s := rng_len fun i _ => by obtain ⟨V, h1, h2, _⟩ := hG i; rw [h1]; exact h2
    rw [h] at hl
    have := Nat.mul_pos h0 hs
    simp at hl; omega
  · cases hA'
    refine ⟨by simp, hb, fun i hi q u hu => ?_⟩
    have hi : i < n := hi
    have hu : ((AV.vals? (G i)).getD [])[q]? = some u := hu
    obtain ⟨V, h1, h2, _⟩ := hG i
    have hq : q < s := by rw [h1] at hu; rw [← h2]; exact (List.getElem?_eq_some_iff.1 hu).1
    have h3 := hc (i * s + q) u ((rng_get (V := fun i => (AV.vals? (G i)).getD []) (fun i _ => by obtain ⟨V, h1, h2, _⟩ := hG i; simp only [h1]; exact h2) i q hi hq).trans hu)
    show w.cell? ⟨b, off + i * s + q, none⟩ = some u
    rw [Nat.add_assoc]; exact h3
end Go.Proofs.Ytcfomhnfhalmaaa
