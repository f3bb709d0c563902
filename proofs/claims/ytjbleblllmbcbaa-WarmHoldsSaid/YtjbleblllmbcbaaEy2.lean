/- Operations on values whose shape is known, memory apart. No program of its own. No condition. -/
import Derived.Test.YtjbleblllmbcbaaEy1
set_option linter.unusedVariables false
set_option linter.unusedSimpArgs false
namespace Go.Proofs.Ytjbleblllmbcbaa
open Go.RowKit

variable {R : Rws}
section
variable (P : Program) (R : Rws)
def sizeA (t : TypeId) : Option Nat := (P.info? t).map (·.size)
def aggA (t : TypeId) : Option Bool := match P.underlying t with
  | some (.struct _) | some (.array _ _) => some true
  | some _ => some false
  | none => none
def partA (t : TypeId) (cs : List AV) (off : Nat) : Option AV :=
  match aggA P t, sizeA P t with
  | some true, some n => if Nat.ble (off + n) cs.length then some (.agg ((cs.drop off).take n)) else none
  | some false, some _ => cs[off]?
  | _, _ => none
def loadA (H : Mem) (t : TypeId) : AV → Option AV
  | .ptr l o => match H[l]? with
    | some (.cells cs _) => partA P t cs o
    | _ => none
  | .rptr j i o => match R j with
    | some r => partA P t (r.F i) o
    | none => none
  | _ => none
def setsA : List AV → Nat → List AV → List AV
  | cs, _, [] => cs
  | cs, o, v :: r => setsA (cs.set o v) (o + 1) r
def setsV : List Value → Nat → List Value → List Value
  | cs, _, [] => cs
  | cs, o, v :: r => setsV (cs.set o v) (o + 1) r
end

section
variable {P : Program} {ρ : Nums}
theorem run_isAggA {t : TypeId} {z : Bool} (h : aggA P t = some z) (w : World) : (isAgg t).run P w = .ok z w := by
  unfold aggA at h
  unfold isAgg
  split at h
  · rename_i d hd; cases h; simp [run_underlying hd]
  · rename_i d e hd; cases h; simp [run_underlying hd]
  · rename_i d h1 h2 hd
    cases h
    rw [Sem.run_bind, run_underlying hd]
    cases d <;> first | rfl | exact absurd rfl (h1 _) | exact absurd rfl (h2 _ _)
  · cases h
theorem run_sizeA {t : TypeId} {n : Nat} (h : sizeA P t = some n) (w : World) : (sizeOf t).run P w = .ok n w := by
  unfold sizeA at h
  rw [Option.map_eq_some_iff] at h
  obtain ⟨i, h1, h2⟩ := h
  simp [sizeOf, typeInfo, h1, h2]
theorem part_sound {t : TypeId} {cs : List AV} {off : Nat} {v : AV} {Cs : List Value} (h : partA P t cs off = some v) (hr : RelL R ρ cs Cs) : ∃ V, Rel R ρ v V ∧ ∀ w, (part t Cs.toArray off).run P w = .ok V w := by
  unfold partA at h
  split at h
  · rename_i n ha hs
    split at h
    · rename_i hb
      cases h
      refine ⟨.agg ((Cs.drop off).take n).toArray, .agg ((hr.drop off).take n), fun w => ?_⟩
      unfold part
      simp only [Sem.run_bind, run_isAggA ha, Result.andThen_ok, if_true, run_sizeA hs, Sem.run_pure]
      congr 2
      simp [List.take_drop]
    · cases h
  · rename_i ha hs
    obtain ⟨V, h1, h2⟩ := hr.get h
    refine ⟨V, h2, fun w => ?_⟩
    unfold part
    simp [run_isAggA ha, h1]
  · cases h
theorem load_sound {t : TypeId} {cs : List AV} {off : Nat} {v : AV} {Cs : List Value} (h : partA P t cs off = some v) (hr : RelL R ρ cs Cs) :
    ∃ V, Rel R ρ v V ∧ ∀ (w : World) (b : Nat) (ty : TypeId), Blk w b Cs.toArray ty → (loadVar t ⟨b, off, none⟩).run P w = .ok V w := by
  unfold partA at h
  split at h
  · rename_i n ha hs
    split at h
    · rename_i hb
      have hb := Nat.le_of_ble_eq_true hb
      cases h
      refine ⟨.agg ((Cs.drop off).take n).toArray, .agg ((hr.drop off).take n), fun w b ty hB => ?_⟩
      have hlen : ((Cs.drop off).take n).length = n := by simp [hr.len]; omega
      have hl : (loadCells ⟨b, off, none⟩ ((Cs.drop off).take n).length).run P w = .ok ((Cs.drop off).take n).toArray w :=
        run_loadCells_list (P := P) w ⟨b, off, none⟩ _ fun j u hu => by
          rw [Addr.add_lit, hB.cell]
          rw [List.getElem?_take] at hu
          split at hu
          · simpa [List.getElem?_drop] using hu
          · cases hu
      rw [hlen] at hl
      unfold loadVar
      simp only [Sem.run_bind, run_isAggA ha, Result.andThen_ok, if_true, run_sizeA hs, Sem.run_pure, hl]
    · cases h
  · rename_i ha hs
    obtain ⟨V, h1, h2⟩ := hr.get h
    refine ⟨V, h2, fun w b ty hB => ?_⟩
    unfold loadVar
    have hc := hB.cell off
    rw [List.getElem?_toArray, h1] at hc
    simp [run_isAggA ha, hc]
  · cases h
theorem load_row {t : TypeId} {cs : List AV} {off : Nat} {v : AV} {Cs : List Value} (h : partA P t cs off = some v) (hr : RelL R ρ cs Cs) :
    ∃ V, Rel R ρ v V ∧ ∀ (w : World) (b base : Nat), (∀ q u, Cs[q]? = some u → w.cell? ⟨b, base + q, none⟩ = some u) → (loadVar t ⟨b, base + off, none⟩).run P w = .ok V w := by
  unfold partA at h
  split at h
  · rename_i n ha hs
    split at h
    · rename_i hb
      have hb := Nat.le_of_ble_eq_true hb
      cases h
      refine ⟨.agg ((Cs.drop off).take n).toArray, .agg ((hr.drop off).take n), fun w b base hB => ?_⟩
      have hlen : ((Cs.drop off).take n).length = n := by simp [hr.len]; omega
      have hl : (loadCells ⟨b, base + off, none⟩ ((Cs.drop off).take n).length).run P w = .ok ((Cs.drop off).take n).toArray w :=
        run_loadCells_list (P := P) w ⟨b, base + off, none⟩ _ fun j u hu => by
          rw [Addr.add_lit, Nat.add_assoc]
          apply hB
          rw [List.getElem?_take] at hu
          split at hu
          · simpa [List.getElem?_drop] using hu
          · cases hu
      rw [hlen] at hl
      unfold loadVar
      simp only [Sem.run_bind, run_isAggA ha, Result.andThen_ok, if_true, run_sizeA hs, Sem.run_pure, hl]
    · cases h
  · rename_i ha hs
    obtain ⟨V, h1, h2⟩ := hr.get h
    refine ⟨V, h2, fun w b base hB => ?_⟩
    unfold loadVar
    simp [run_isAggA ha, hB _ _ h1]
  · cases h
theorem sets_rel : ∀ {vs : List AV} {Vs : List Value} {cs : List AV} {Cs : List Value} {o : Nat}, RelL R ρ vs Vs → RelL R ρ cs Cs → RelL R ρ (setsA cs o vs) (setsV Cs o Vs)
  | _, _, _, _, _, .nil, hc => hc
  | _, _, _, _, _, .cons h hs, hc => by unfold setsA setsV; exact sets_rel hs (hc.set h)
theorem sets_len : ∀ {vs : List Value} {cs : List Value} {o : Nat}, (setsV cs o vs).length = cs.length
  | [], _, _ => rfl
  | v :: r, cs, o => by rw [setsV, sets_len]; simp
theorem store_run : ∀ (vs : List Value) (Cs : List Value) (w : World) (b o i : Nat) (ty : TypeId), (∀ v ∈ vs, v.oneCell' = true) → Blk w b Cs.toArray ty → o + i + vs.length ≤ Cs.length →
    ∃ w', (storeCells ⟨b, o, none⟩ vs i).run P w = .ok () w' ∧ Same b w w' ∧ Blk w' b (setsV Cs (o + i) vs).toArray ty
  | [], Cs, w, b, o, i, ty, _, hB, _ => ⟨w, rfl, Same.refl _ _, hB⟩
  | v :: r, Cs, w, b, o, i, ty, h1, hB, hl => by
    simp only [List.length_cons] at hl
    have hc := hB.cell (o + i)
    rw [List.getElem?_toArray, List.getElem?_eq_getElem (by omega : o + i < Cs.length)] at hc
    have hf := hB.free (o + i)
    have hB' := Blk.set hB (o + i) v
    have e : (Cs.toArray.setIfInBounds (o + i) v) = (Cs.set (o + i) v).toArray := by simp
    rw [e] at hB'
    obtain ⟨w', r1, r2, r3⟩ := store_run r (Cs.set (o + i) v) _ b o (i + 1) ty (fun x hx => h1 x (by simp [hx])) hB' (by simp; omega)
    refine ⟨w', ?_, ⟨r2.os, r2.tape, r2.output, by rw [r2.size]; simp, fun k hk => by rw [r2.block k hk]; exact (Same.refl b w |>.set (o + i) v).block k hk⟩, r3⟩
    unfold storeCells
    rw [Sem.run_bind, Addr.add_lit, run_store P w _ v _ (h1 v (by simp)), hc]
    simp only [hf, Bool.false_eq_true, if_false, Result.andThen_ok]
    exact r1
end

/- Numbers. -/
def bvBin (op : BinOp) (k : IntKind) (a b : BitVec k.bits) : Option AV :=
  match op with
  | .add => some (.bv k (a + b))
  | .sub => some (.bv k (a - b))
  | .mul => some (.bv k (a * b))
  | .and => some (.bv k (a &&& b))
  | .or => some (.bv k (a ||| b))
  | .xor => some (.bv k (a ^^^ b))
  | .andNot => some (.bv k (a &&& ~~~b))
  | .eql => some (.bool false (a == b))
  | .neq => some (.bool false (a != b))
  | .lss => some (.bool false (Nat.blt a.toNat b.toNat))
  | .leq => some (.bool false (Nat.ble a.toNat b.toNat))
  | .gtr => some (.bool false (Nat.blt b.toNat a.toNat))
  | .geq => some (.bool false (Nat.ble b.toNat a.toNat))
  | _ => none
def intBin (op : BinOp) (k : IntKind) (lit : Bool) (x y : Int) : Option AV :=
  match op with
  | .add => some (.int k lit (k.wrap (x + y)))
  | .sub => some (.int k lit (k.wrap (x - y)))
  | .mul => some (.int k lit (k.wrap (x * y)))
  | .and => some (.int k lit (bits .and k x y))
  | .or => some (.int k lit (bits .or k x y))
  | .xor => some (.int k lit (bits .xor k x y))
  | .andNot => some (.int k lit (bits .andNot k x y))
  | .eql => some (.bool lit (x == y))
  | .neq => some (.bool lit (x != y))
  | .lss => some (.bool lit (decide (x < y)))
  | .leq => some (.bool lit (decide (x ≤ y)))
  | .gtr => some (.bool lit (decide (x > y)))
  | .geq => some (.bool lit (decide (x ≥ y)))
  | _ => none
def isDiv : BinOp → Bool
  | .quo | .rem => true
  | _ => false
def isShift : BinOp → Bool
  | .shl | .shr => true
  | _ => false
def divBin (op : BinOp) (k : IntKind) (lit : Bool) (x y : Int) : Option AV :=
  match op with
  | .quo => some (.int k lit (k.wrap (x.tdiv y)))
  | .rem => some (.int k lit (x.tmod y))
  | _ => none
def shiftInt (op : BinOp) (k : IntKind) (lit : Bool) (x : Int) (n : Nat) : Option AV :=
  match op with
  | .shl => some (.int k lit (k.wrap (x * 2 ^ n)))
  | .shr => some (.int k lit (x.fdiv (2 ^ n)))
  | _ => none
def shiftBv (op : BinOp) (k : IntKind) (a : BitVec k.bits) (n : Nat) : Option AV :=
  match op with
  | .shl => some (.bv k (a <<< n))
  | .shr => some (.bv k (a >>> n))
  | _ => none
/-- A number as a row of bits. -/
def AV.asBv (k : IntKind) : AV → Option (BitVec k.bits)
  | .bv k' a => if h : k' = k then some (h ▸ a) else none
  | .int k' lit n => if k' = k ∧ lit = true ∧ 0 ≤ n ∧ n < 2 ^ k.bits then some (BitVec.ofInt k.bits n) else none
  | _ => none
/-- The value and what must be so. -/
abbrev VC := AV × List Bool
def amount : AV → Option (Nat × Bool × List Bool)
  | .int _ true y => if y < 0 then none else some (y.toNat, true, [])
  | .int _ false y => some (y.toNat, false, [decide (0 ≤ y)])
  | .bv _ a => some (a.toNat, false, [])
  | _ => none
def none' (r : Option AV) : Option VC := r.map fun v => (v, [])
def binA (op : BinOp) (x y : AV) : Option VC :=
  bif isShift op then
    match x, amount y with
    | .int k l a, some (n, ly, cs) => (shiftInt op k (l && ly) a (min n k.bits)).map fun v => (v, cs)
    | .bv k a, some (n, _, cs) => (shiftBv op k a n).map fun v => (v, cs)
    | _, _ => none
  else bif isDiv op then
    match x, y with
    | .int k l a, .int k' l' b => if k = k' then (if l' = true then (if b = 0 then none else none' (divBin op k (l && l') a b)) else (divBin op k false a b).map fun v => (v, [decide (b ≠ 0)])) else none
    | _, _ => none
  else
    match x, y with
    | .int k l a, .int k' l' b => if k = k' then none' (intBin op k (l && l') a b) else none
    | .bv k a, y => match y.asBv k with
      | some b => none' (bvBin op k a b)
      | none => none
    | .int k l n, .bv k' b => match (AV.int k l n).asBv k' with
      | some a => none' (bvBin op k' a b)
      | none => none
    | _, _ => none

theorem wrap_bits {k : IntKind} (h : k.signed = false) (n : Int) : k.wrap n = n % (2 ^ k.bits : Int) := by
  unfold IntKind.wrap; simp [h]
theorem bv_lt {k : IntKind} (a : BitVec k.bits) : (a.toNat : Int) < 2 ^ k.bits := by
  have := a.isLt; exact_mod_cast this
theorem wrap_bv {k : IntKind} (h : k.signed = false) (a : BitVec k.bits) : k.wrap (a.toNat : Int) = a.toNat := by
  rw [wrap_bits h]; exact Int.emod_eq_of_lt (by omega) (bv_lt a)
theorem ofInt_bv {k : IntKind} (a : BitVec k.bits) : BitVec.ofInt k.bits (a.toNat : Int) = a := by
  apply BitVec.eq_of_toNat_eq; simp
theorem bits_bv {k : IntKind} (h : k.signed = false) (a b : BitVec k.bits) : bits .and k a.toNat b.toNat = (a &&& b).toNat ∧ bits .or k a.toNat b.toNat = (a ||| b).toNat ∧ bits .xor k a.toNat b.toNat = (a ^^^ b).toNat ∧ bits .andNot k a.toNat b.toNat = (a &&& ~~~b).toNat := by
  unfold bits
  simp only [ofInt_bv, wrap_bv h]
  exact ⟨trivial, trivial, trivial, trivial⟩
theorem add_bv {k : IntKind} (h : k.signed = false) (a b : BitVec k.bits) : k.wrap ((a.toNat : Int) + b.toNat) = (a + b).toNat := by
  rw [wrap_bits h, BitVec.toNat_add]; simp
theorem mul_bv {k : IntKind} (h : k.signed = false) (a b : BitVec k.bits) : k.wrap ((a.toNat : Int) * b.toNat) = (a * b).toNat := by
  rw [wrap_bits h, BitVec.toNat_mul]; simp
theorem sub_bv {k : IntKind} (h : k.signed = false) (a b : BitVec k.bits) : k.wrap ((a.toNat : Int) - b.toNat) = (a - b).toNat := by
  rw [wrap_bits h, BitVec.toNat_sub]
  have hb := b.isLt
  have : (((2 ^ k.bits - b.toNat + a.toNat : Nat) : Int)) = (a.toNat : Int) - b.toNat + 2 ^ k.bits := by
    rw [Int.natCast_add, Int.ofNat_sub (Nat.le_of_lt hb)]; simp; omega
  rw [Int.natCast_emod, this]
  simp
theorem shl_bv {k : IntKind} (h : k.signed = false) (a : BitVec k.bits) (n : Nat) : k.wrap ((a.toNat : Int) * 2 ^ (min n k.bits)) = (a <<< n).toNat := by
  rw [wrap_bits h, BitVec.toNat_shiftLeft, Nat.shiftLeft_eq]
  by_cases hn : n ≤ k.bits
  · rw [Nat.min_eq_left hn]; simp
  · have hn : k.bits ≤ n := by omega
    rw [Nat.min_eq_right hn]
    have e1 : ((a.toNat : Int) * 2 ^ k.bits) % 2 ^ k.bits = 0 := by simp
    have e2 : (a.toNat * 2 ^ n) % 2 ^ k.bits = 0 := by
      obtain ⟨d, rfl⟩ := Nat.exists_eq_add_of_le hn
      rw [Nat.pow_add, ← Nat.mul_assoc, Nat.mul_right_comm]; simp
    rw [e1, e2]; rfl
theorem shr_bv {k : IntKind} (a : BitVec k.bits) (n : Nat) : (a.toNat : Int).fdiv (2 ^ (min n k.bits)) = (a >>> n).toNat := by
  rw [BitVec.toNat_ushiftRight, Nat.shiftRight_eq_div_pow, Int.fdiv_eq_ediv_of_nonneg _ (Int.le_of_lt (Int.pow_pos (by decide)))]
  by_cases hn : n ≤ k.bits
  · rw [Nat.min_eq_left hn]; simp
  · have hn : k.bits ≤ n := by omega
    rw [Nat.min_eq_right hn]
    have e1 : (a.toNat : Int) / 2 ^ k.bits = 0 := Int.ediv_eq_zero_of_lt (by omega) (bv_lt a)
    have e2 : a.toNat / 2 ^ n = 0 := Nat.div_eq_of_lt (Nat.lt_of_lt_of_le a.isLt (Nat.pow_le_pow_right (by decide) hn))
    rw [e1, e2]; rfl

section
variable {P : Program} {ρ : Nums} {w : World}
theorem asBv_sound {k : IntKind} {v : AV} {V : Value} {a : BitVec k.bits} (h : v.asBv k = some a) (hr : Rel R ρ v V) (hs : k.signed = false) : V = .int k (a.toNat : Int) := by
  cases hr <;> simp only [AV.asBv] at h
  case bv hk =>
    split at h
    · rename_i e; subst e; cases h; rfl
    · cases h
  case int =>
    split at h
    · rename_i e; obtain ⟨rfl, rfl, h0, h1⟩ := e; cases h
      congr 1
      rw [BitVec.toNat_ofInt]
      have : (0 : Int) ≤ _ := h0
      rw [Int.toNat_of_nonneg (Int.emod_nonneg _ (by exact_mod_cast Nat.ne_of_gt (Nat.two_pow_pos _)))]
      exact (Int.emod_eq_of_lt h0 (by exact_mod_cast h1)).symm
    · cases h
  all_goals cases h
theorem bvBin_sound {op : BinOp} {k : IntKind} {a b : BitVec k.bits} {v : AV} (h : bvBin op k a b = some v) (hs : k.signed = false) (t : TypeId) :
    ∃ V, Rel R ρ v V ∧ ∀ w, (binOp op t (.int k (a.toNat : Int)) (.int k (b.toNat : Int))).run P w = .ok V w := by
  have hB := bits_bv hs a b
  cases op <;> simp only [bvBin] at h <;> cases h
  case add => exact ⟨_, .bv hs, fun w => by simp [binOp, Op.intArith, add_bv hs]⟩
  case sub => exact ⟨_, .bv hs, fun w => by simp [binOp, Op.intArith, sub_bv hs]⟩
  case mul => exact ⟨_, .bv hs, fun w => by simp [binOp, Op.intArith, mul_bv hs]⟩
  case and => exact ⟨_, .bv hs, fun w => by simp [binOp, intBits_and, hB]⟩
  case or => exact ⟨_, .bv hs, fun w => by simp [binOp, intBits_or, hB]⟩
  case xor => exact ⟨_, .bv hs, fun w => by simp [binOp, intBits_xor, hB]⟩
  case andNot => exact ⟨_, .bv hs, fun w => by simp [binOp, intBits_andNot, hB]⟩
  case eql => exact ⟨_, .bool, fun w => by simp [binOp, Op.intCmp]; rw [Bool.eq_iff_iff]; simp [BitVec.toNat_eq]; omega⟩
  case neq => exact ⟨_, .bool, fun w => by simp [binOp, Op.intCmp]; rw [Bool.eq_iff_iff]; simp [BitVec.toNat_eq]; omega⟩
  case lss => exact ⟨_, .bool, fun w => by simp [binOp, Op.intCmp]; rw [Bool.eq_iff_iff]; simp⟩
  case leq => exact ⟨_, .bool, fun w => by simp [binOp, Op.intCmp]; rw [Bool.eq_iff_iff]; simp⟩
  case gtr => exact ⟨_, .bool, fun w => by simp [binOp, Op.intCmp]; rw [Bool.eq_iff_iff]; simp⟩
  case geq => exact ⟨_, .bool, fun w => by simp [binOp, Op.intCmp]; rw [Bool.eq_iff_iff]; simp⟩
theorem intBin_sound {op : BinOp} {k : IntKind} {l : Bool} {x y : Int} {v : AV} (h : intBin op k l x y = some v) (t : TypeId) :
    ∃ V, Rel R ρ v V ∧ ∀ w, (binOp op t (.int k x) (.int k y)).run P w = .ok V w := by
  cases op <;> simp only [intBin] at h <;> cases h
  case add => exact ⟨_, .int, fun w => by simp [binOp, Op.intArith]⟩
  case sub => exact ⟨_, .int, fun w => by simp [binOp, Op.intArith]⟩
  case mul => exact ⟨_, .int, fun w => by simp [binOp, Op.intArith]⟩
  case and => exact ⟨_, .int, fun w => by simp [binOp, intBits_and]⟩
  case or => exact ⟨_, .int, fun w => by simp [binOp, intBits_or]⟩
  case xor => exact ⟨_, .int, fun w => by simp [binOp, intBits_xor]⟩
  case andNot => exact ⟨_, .int, fun w => by simp [binOp, intBits_andNot]⟩
  all_goals exact ⟨_, .bool, fun w => by simp [binOp, Op.intCmp]⟩
theorem divBin_sound {op : BinOp} {k : IntKind} {l : Bool} {x y : Int} {v : AV} (h : divBin op k l x y = some v) (hy : y ≠ 0) (t : TypeId) :
    ∃ V, Rel R ρ v V ∧ ∀ w, (binOp op t (.int k x) (.int k y)).run P w = .ok V w := by
  cases op <;> simp only [divBin] at h <;> cases h
  all_goals exact ⟨_, .int, fun w => by simp [binOp, Op.intDiv, hy]⟩
theorem shiftInt_sound {op : BinOp} {k k' : IntKind} {l : Bool} {x y : Int} {v : AV} (hy : 0 ≤ y) (h : shiftInt op k l x (min y.toNat k.bits) = some v) (t : TypeId) :
    ∃ V, Rel R ρ v V ∧ ∀ w, (binOp op t (.int k x) (.int k' y)).run P w = .ok V w := by
  have hy' : ¬ y < 0 := by omega
  cases op <;> simp only [shiftInt] at h <;> cases h
  all_goals exact ⟨_, .int, fun w => by simp [binOp, Op.shift, hy']⟩
theorem shiftBv_sound {op : BinOp} {k k' : IntKind} {a : BitVec k.bits} {y : Int} {v : AV} (hs : k.signed = false) (hy : 0 ≤ y) (h : shiftBv op k a y.toNat = some v) (t : TypeId) :
    ∃ V, Rel R ρ v V ∧ ∀ w, (binOp op t (.int k (a.toNat : Int)) (.int k' y)).run P w = .ok V w := by
  have hy' : ¬ y < 0 := by omega
  cases op <;> simp only [shiftBv] at h <;> cases h
  · exact ⟨_, .bv hs, fun w => by simp only [binOp, Op.shift, hy', if_false, Sem.run_pure, shl_bv hs]⟩
  · exact ⟨_, .bv hs, fun w => by simp only [binOp, Op.shift, hy', if_false, Sem.run_pure, shr_bv]⟩
theorem amount_sound {y : AV} {Y : Value} {n : Nat} {l : Bool} {cs : List Bool} (h : amount y = some (n, l, cs)) (hc : ∀ c ∈ cs, c = true) (hr : Rel R ρ y Y) : ∃ k i, Y = .int k i ∧ 0 ≤ i ∧ n = i.toNat := by
  cases hr <;> simp only [amount] at h
  case int k lit n' =>
    cases lit <;> simp only at h
    · cases h; exact ⟨_, _, rfl, by simpa using hc, rfl⟩
    · split at h
      · cases h
      · cases h; exact ⟨_, _, rfl, by omega, rfl⟩
  case bv k a _ => cases h; exact ⟨_, _, rfl, by omega, by simp⟩
  all_goals cases h
theorem binA_sound {op : BinOp} {x y : AV} {X Y : Value} {v : AV} {cs : List Bool} (h : binA op x y = some (v, cs)) (hc : ∀ c ∈ cs, c = true) (hx : Rel R ρ x X) (hy : Rel R ρ y Y) (t : TypeId) :
    ∃ V, Rel R ρ v V ∧ ∀ w, (binOp op t X Y).run P w = .ok V w := by
  unfold binA at h
  cases hsh : isShift op <;> simp only [hsh, cond_true, cond_false] at h
  · cases hdv : isDiv op <;> simp only [hdv, cond_true, cond_false] at h
    · split at h
      · rename_i k l a k' l' b
        split at h
        · rename_i e; subst e
          simp only [none', Option.map_eq_some_iff] at h
          obtain ⟨u, h1, h2⟩ := h; cases h2; cases hx; cases hy
          exact intBin_sound h1 t
        · cases h
      · rename_i k a y hne
        split at h
        · rename_i b hb
          simp only [none', Option.map_eq_some_iff] at h
          obtain ⟨u, h1, h2⟩ := h; cases h2
          cases hx with | bv hs =>
          rw [asBv_sound hb hy hs]
          exact bvBin_sound h1 hs t
        · cases h
      · rename_i k l n k' b
        split at h
        · rename_i a ha
          simp only [none', Option.map_eq_some_iff] at h
          obtain ⟨u, h1, h2⟩ := h; cases h2
          cases hy with | bv hs =>
          rw [asBv_sound ha hx hs]
          exact bvBin_sound h1 hs t
        · cases h
      · cases h
    · split at h
      · rename_i k l a k' l' b
        split at h
        · rename_i e; subst e
          cases hx; cases hy
          split at h
          · split at h
            · cases h
            · rename_i hb
              simp only [none', Option.map_eq_some_iff] at h
              obtain ⟨u, h1, h2⟩ := h; cases h2
              exact divBin_sound h1 hb t
          · simp only [Option.map_eq_some_iff] at h
            obtain ⟨u, h1, h2⟩ := h; cases h2
            exact divBin_sound h1 (by simpa using hc) t
        · cases h
      · cases h
  · split at h
    · rename_i k l a n ly cs' ham
      simp only [Option.map_eq_some_iff] at h
      obtain ⟨u, h1, h2⟩ := h; cases h2
      obtain ⟨k', i, rfl, h0, rfl⟩ := amount_sound ham hc hy
      cases hx
      exact shiftInt_sound h0 h1 t
    · rename_i k a n ly cs' ham
      simp only [Option.map_eq_some_iff] at h
      obtain ⟨u, h1, h2⟩ := h; cases h2
      obtain ⟨k', i, rfl, h0, rfl⟩ := amount_sound ham hc hy
      cases hx with | bv hs => exact shiftBv_sound hs h0 h1 t
    · cases h
end
end Go.Proofs.Ytjbleblllmbcbaa
