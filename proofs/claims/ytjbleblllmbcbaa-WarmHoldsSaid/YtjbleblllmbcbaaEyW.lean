/- Words among values whose shape is known; contracts on words. No program of its own. No condition. -/
import Derived.Test.YtjbleblllmbcbaaEyK
import Derived.Test.YtjbleblllmbcbaaArrEq
import Derived.Test.YtjbleblllmbcbaaWords
set_option linter.unusedVariables false
set_option linter.unusedSimpArgs false
namespace Go.Proofs.Ytjbleblllmbcbaa
open Go.RowKit

/-- What is computed is what is wanted. -/
structure Is (p : Prop) : Prop where
  is : p
/-- So much must come out so. -/
def allE : List (Bool × Bool) → Prop → Prop
  | [], p => p
  | (b, c) :: r, p => b = c ∧ allE r p
def AllE : List (Bool × Bool) → Prop
  | [] => True
  | (b, c) :: r => b = c ∧ AllE r
theorem allE_of : ∀ {l : List (Bool × Bool)} {p : Prop}, AllE l → p → allE l p
  | [], _, _, h => h
  | (_, _) :: _, _, ⟨h, hs⟩, hp => ⟨h, allE_of hs hp⟩
theorem ev_cond (l : List (Bool × Bool)) {p : Prop} {r : AV} (h : p = allE l (r = r)) (hl : AllE l) : Is p := ⟨h ▸ allE_of hl rfl⟩
theorem ev_lit {p : Prop} {r : AV} (h : p = (r = r)) : Is p := ⟨h ▸ rfl⟩

def limb (x : BitVec 256) (q : Nat) : BitVec 64 := BitVec.ofNat 64 (x.toNat / 2 ^ (64 * q))
def mkW (a b c d : BitVec 64) : BitVec 256 := BitVec.ofNat 256 (a.toNat + 18446744073709551616 * b.toNat + 340282366920938463463374607431768211456 * c.toNat + 6277101735386680763835789423207666416102355444464034512896 * d.toNat)
abbrev re (x : BitVec 256) : BitVec 256 := mkW (limb x 0) (limb x 1) (limb x 2) (limb x 3)
theorem limb_L (x : BitVec 256) (q : Nat) : ((limb x q).toNat : Int) = L x q := by
  rw [L_eq]; unfold limb; rw [BitVec.toNat_ofNat]
theorem mkW_nat (a b c d : BitVec 64) : (mkW a b c d).toNat = a.toNat + 18446744073709551616 * b.toNat + 340282366920938463463374607431768211456 * c.toNat + 6277101735386680763835789423207666416102355444464034512896 * d.toNat := by
  have ha := a.isLt
  have hb := b.isLt
  have hc := c.isLt
  have hd := d.isLt
  unfold mkW
  rw [BitVec.toNat_ofNat]
  apply Nat.mod_eq_of_lt
  omega
theorem limb_mkW (a b c d : BitVec 64) : limb (mkW a b c d) 0 = a ∧ limb (mkW a b c d) 1 = b ∧ limb (mkW a b c d) 2 = c ∧ limb (mkW a b c d) 3 = d := by
  have ha := a.isLt
  have hb := b.isLt
  have hc := c.isLt
  have hd := d.isLt
  have h := mkW_nat a b c d
  unfold limb
  refine ⟨?_, ?_, ?_, ?_⟩ <;>
    (apply BitVec.eq_of_toNat_eq; rw [BitVec.toNat_ofNat, h]; simp only [Nat.reducePow, Nat.reduceMul]; omega)
theorem W_limbs (x : BitVec 256) : W x = .agg #[.int .u64 (limb x 0).toNat, .int .u64 (limb x 1).toNat, .int .u64 (limb x 2).toNat, .int .u64 (limb x 3).toNat] := by
  simp only [limb_L]
theorem re_eq (x : BitVec 256) : re x = x := by
  obtain ⟨h0, h1, h2, h3⟩ := limb_mkW (limb x 0) (limb x 1) (limb x 2) (limb x 3)
  apply L_ext <;> rw [← limb_L, ← limb_L]
  · rw [h0]
  · rw [h1]
  · rw [h2]
  · rw [h3]
theorem W_mkW (a b c d : BitVec 64) : W (mkW a b c d) = .agg #[.int .u64 a.toNat, .int .u64 b.toNat, .int .u64 c.toNat, .int .u64 d.toNat] := by
  obtain ⟨h0, h1, h2, h3⟩ := limb_mkW a b c d
  rw [W_limbs, h0, h1, h2, h3]
def b64 (x : BitVec 64) : AV := .bv .u64 x
def wA (x : BitVec 256) : AV := .agg [b64 (limb x 0), b64 (limb x 1), b64 (limb x 2), b64 (limb x 3)]
abbrev wC (x : BitVec 256) : List AV := [b64 (limb x 0), b64 (limb x 1), b64 (limb x 2), b64 (limb x 3)]
theorem vals_wC (x : BitVec 256) : AV.vals? (wC x) = some [.int .u64 (L x 0), .int .u64 (L x 1), .int .u64 (L x 2), .int .u64 (L x 3)] := by simp only [← limb_L]; rfl
theorem told_wA (x : BitVec 256) : (wA x).told? = some (W x) := by rw [W_limbs]; rfl
theorem rel_wA {R : Rws} (ρ : Nums) (x : BitVec 256) : Rel R ρ (wA x) (W x) := by
  rw [W_limbs]
  exact .agg (.cons (.bv rfl) (.cons (.bv rfl) (.cons (.bv rfl) (.cons (.bv rfl) .nil))))
def asB64 (v : AV) : Option (BitVec 64) := v.asBv .u64
def asW : AV → Option (BitVec 256)
  | .agg [c0, c1, c2, c3] => match asB64 c0, asB64 c1, asB64 c2, asB64 c3 with
    | some a, some b, some c, some d => some (mkW a b c d)
    | _, _, _, _ => none
  | _ => none
theorem asW_rel {R : Rws} {ρ : Nums} {v : AV} {V : Value} {x : BitVec 256} (h : asW v = some x) (hr : Rel R ρ v V) : V = W x := by
  unfold asW at h
  split at h
  · split at h
    · rename_i a b c d h0 h1 h2 h3
      cases h
      cases hr with | agg hr =>
      cases hr with | cons r0 hr =>
      cases hr with | cons r1 hr =>
      cases hr with | cons r2 hr =>
      cases hr with | cons r3 hr =>
      cases hr
      rw [asBv_sound h0 r0 rfl, asBv_sound h1 r1 rfl, asBv_sound h2 r2 rfl, asBv_sound h3 r3 rfl, W_mkW]
      rfl
    · cases h
  · cases h
def asN : AV → Option (BitVec 64) := asB64
theorem asN_rel {R : Rws} {ρ : Nums} {v : AV} {V : Value} {x : BitVec 64} (h : asN v = some x) (hr : Rel R ρ v V) : V = .int .u64 (x.toNat : Int) := asBv_sound h hr rfl
def asI (k : IntKind) : AV → Option Int
  | .int k' _ n => if k' = k then some n else none
  | _ => none
theorem asI_rel {R : Rws} {ρ : Nums} {k : IntKind} {v : AV} {V : Value} {x : Int} (h : asI k v = some x) (hr : Rel R ρ v V) : V = .int k x := by
  cases hr <;> simp only [asI] at h <;> try cases h
  split at h
  · rename_i e; subst e; cases h; rfl
  · cases h
def asB : AV → Option Bool
  | .bool _ b => some b
  | _ => none
theorem asB_rel {R : Rws} {ρ : Nums} {v : AV} {V : Value} {x : Bool} (h : asB v = some x) (hr : Rel R ρ v V) : V = .bool x := by
  cases hr <;> simp only [asB] at h <;> cases h
  rfl
abbrev CtrF := List AV → Mem → Option VC
section
variable {R : Rws}
def lookF : List (Nat × CtrF) → Nat → Option CtrF
  | [], _ => none
  | (g, F) :: r, f => bif Nat.beq f g then some F else lookF r f
theorem lookF_ok {P : Program} : ∀ {T : List (Nat × CtrF)}, (∀ p ∈ T, Good P R p.1 p.2) → ∀ f F, lookF T f = some F → Good P R f F
  | [], _, _, _, h => by cases h
  | (g, F) :: r, hT, f, F', h => by
    unfold lookF at h
    cases hb : Nat.beq f g <;> simp only [hb, cond_true, cond_false] at h
    · exact lookF_ok (fun p hp => hT p (List.mem_cons_of_mem _ hp)) f F' h
    · cases h; rw [Nat.eq_of_beq_eq_true hb]; exact hT _ (List.mem_cons_self ..)
theorem good_cons {P : Program} {p : Nat × CtrF} {T : List (Nat × CtrF)} (h : Good P R p.1 p.2) (hT : ∀ p ∈ T, Good P R p.1 p.2) : ∀ q ∈ p :: T, Good P R q.1 q.2 := fun q hq => by
  rcases List.mem_cons.1 hq with rfl | hq
  · exact h
  · exact hT q hq
theorem good_nil {P : Program} : ∀ q ∈ ([] : List (Nat × CtrF)), Good P R q.1 q.2 := fun q hq => by cases hq
section
variable {P : Program} {f : FuncId} (hen : Enters P f)
def ctr0 (r : AV) : CtrF
  | [], _ => some (r, [])
  | _, _ => none
theorem ctr0_ok {r : AV} {V : Value} (hen : Enters P f) (hV : r.told? = some V) (h : ∀ w, Calls P f #[] w fun e w' => e = .returned V ∧ Below w.heap.size w w') : Good P R f (ctr0 r) := by
  refine ⟨hen, fun args H v cs hv _ => ?_⟩
  unfold ctr0 at hv
  split at hv
  · cases hv; exact ⟨V, hV, fun Hr Args ha _ _ w _ => by cases ha; exact h w⟩
  · cases hv
def ctrT {α : Type} (pa : AV → Option α) (F : α → AV) : CtrF
  | [x], _ => match pa x with
    | some x => some (F x, [])
    | none => none
  | _, _ => none
theorem ctrT_ok {α : Type} {pa : AV → Option α} {enc : α → Value} (hr : ∀ {R : Rws} {ρ : Nums} {v : AV} {V : Value} {x : α}, pa v = some x → Rel R ρ v V → V = enc x) {F : α → AV} {V : α → Value} (hen : Enters P f) (hV : ∀ x, (F x).told? = some (V x)) (h : ∀ x w, Calls P f #[enc x] w fun e w' => e = .returned (V x) ∧ Below w.heap.size w w') : Good P R f (ctrT pa F) := by
  refine ⟨hen, fun args H v cs hv _ => ?_⟩
  unfold ctrT at hv
  split at hv
  · split at hv
    · rename_i x hx
      cases hv; exact ⟨_, hV x, fun Hr Args ha _ _ w _ => by cases ha with | cons h1 h2 => cases h2; rw [hr hx h1]; exact h x w⟩
    · cases hv
  · cases hv
def ctrTT {α β : Type} (pa : AV → Option α) (pb : AV → Option β) (F : α → β → AV) : CtrF
  | [x, y], _ => match pa x, pb y with
    | some x, some y => some (F x y, [])
    | _, _ => none
  | _, _ => none
theorem ctrTT_ok {α β : Type} {pa : AV → Option α} {pb : AV → Option β} {ea : α → Value} {eb : β → Value} (hr : ∀ {R : Rws} {ρ : Nums} {v : AV} {V : Value} {x : α}, pa v = some x → Rel R ρ v V → V = ea x) (hs : ∀ {R : Rws} {ρ : Nums} {v : AV} {V : Value} {x : β}, pb v = some x → Rel R ρ v V → V = eb x) {F : α → β → AV} {V : α → β → Value} (hen : Enters P f) (hV : ∀ x y, (F x y).told? = some (V x y)) (h : ∀ x y w, Calls P f #[ea x, eb y] w fun e w' => e = .returned (V x y) ∧ Below w.heap.size w w') : Good P R f (ctrTT pa pb F) := by
  refine ⟨hen, fun args H v cs hv _ => ?_⟩
  unfold ctrTT at hv
  split at hv
  · split at hv
    · rename_i x y hx hy
      cases hv; exact ⟨_, hV x y, fun Hr Args ha _ _ w _ => by cases ha with | cons h1 h2 => cases h2 with | cons h2 h3 => cases h3; rw [hr hx h1, hs hy h2]; exact h x y w⟩
    · cases hv
  · cases hv
def ctrTTT {α β γ : Type} (pa : AV → Option α) (pb : AV → Option β) (pc : AV → Option γ) (F : α → β → γ → AV) : CtrF
  | [x, y, z], _ => match pa x, pb y, pc z with
    | some x, some y, some z => some (F x y z, [])
    | _, _, _ => none
  | _, _ => none
theorem ctrTTT_ok {α β γ : Type} {pa : AV → Option α} {pb : AV → Option β} {pc : AV → Option γ} {ea : α → Value} {eb : β → Value} {ec : γ → Value} (hr : ∀ {R : Rws} {ρ : Nums} {v : AV} {V : Value} {x : α}, pa v = some x → Rel R ρ v V → V = ea x) (hs : ∀ {R : Rws} {ρ : Nums} {v : AV} {V : Value} {x : β}, pb v = some x → Rel R ρ v V → V = eb x)
    (ht : ∀ {R : Rws} {ρ : Nums} {v : AV} {V : Value} {x : γ}, pc v = some x → Rel R ρ v V → V = ec x) {F : α → β → γ → AV} {V : α → β → γ → Value} (hen : Enters P f) (hV : ∀ x y z, (F x y z).told? = some (V x y z)) (h : ∀ x y z w, Calls P f #[ea x, eb y, ec z] w fun e w' => e = .returned (V x y z) ∧ Below w.heap.size w w') : Good P R f (ctrTTT pa pb pc F) := by
  refine ⟨hen, fun args H v cs hv _ => ?_⟩
  unfold ctrTTT at hv
  split at hv
  · split at hv
    · rename_i x y z hx hy hz
      cases hv; exact ⟨_, hV x y z, fun Hr Args ha _ _ w _ => by cases ha with | cons h1 h2 => cases h2 with | cons h2 h3 => cases h3 with | cons h3 h4 => cases h4; rw [hr hx h1, hs hy h2, ht hz h3]; exact h x y z w⟩
    · cases hv
  · cases hv
end
end
/-- == of arrays of numbers. -/
theorem cellsK_rep (k : IntKind) : ∀ xs : List Int, cellsK (List.replicate xs.length k) xs = xs.map (Value.int k)
  | [] => rfl
  | x :: xs => by
    have ih := cellsK_rep k xs
    unfold cellsK at ih ⊢
    rw [List.length_cons, List.replicate_succ, List.zipWith_cons_cons, ih]; rfl
theorem eqT_ints {P : Program} {t e : TypeId} {len : Nat} {k : IntKind} (hu : P.underlying t = some (.array len e)) (he : P.underlying e = some (.int k)) (hs : (P.info? e).map (·.size) = some 1) : EqT P t (List.replicate len k) := by
  intro xs ys hx hy w
  rw [List.length_replicate] at hx hy
  have ex : cellsK (List.replicate len k) xs = xs.map (Value.int k) := by rw [← hx]; exact cellsK_rep k xs
  have ey : cellsK (List.replicate len k) ys = ys.map (Value.int k) := by rw [← hy]; exact cellsK_rep k ys
  rw [ex, ey]
  exact run_equalIn_ints hu he hs 9998 w xs ys hx hy
def lookE : List (Nat × List IntKind) → Nat → Option (List IntKind)
  | [], _ => none
  | (g, F) :: r, f => bif Nat.beq f g then some F else lookE r f
theorem lookE_ok {P : Program} : ∀ {T : List (Nat × List IntKind)}, (∀ p ∈ T, EqT P p.1 p.2) → ∀ f F, lookE T f = some F → EqT P f F
  | [], _, _, _, h => by cases h
  | (g, F) :: r, hT, f, F', h => by
    unfold lookE at h
    cases hb : Nat.beq f g <;> simp only [hb, cond_true, cond_false] at h
    · exact lookE_ok (fun p hp => hT p (List.mem_cons_of_mem _ hp)) f F' h
    · cases h; rw [Nat.eq_of_beq_eq_true hb]; exact hT _ (List.mem_cons_self ..)
theorem eqs_cons {P : Program} {p : Nat × List IntKind} {T : List (Nat × List IntKind)} (h : EqT P p.1 p.2) (hT : ∀ p ∈ T, EqT P p.1 p.2) : ∀ q ∈ p :: T, EqT P q.1 q.2 := fun q hq => by
  rcases List.mem_cons.1 hq with rfl | hq
  · exact h
  · exact hT q hq
theorem eqs_nil {P : Program} : ∀ q ∈ ([] : List (Nat × List IntKind)), EqT P q.1 q.2 := fun q hq => by cases hq
theorem told_WW (x y : BitVec 256) : (AV.tuple [wA x, wA y]).told? = some (.tuple #[W x, W y]) := by rw [W_limbs x, W_limbs y]; rfl
/-- == of words as it is computed. -/
def eqB (x y : BitVec 256) : Bool := (limb x 0 == limb y 0) && ((limb x 1 == limb y 1) && ((limb x 2 == limb y 2) && ((limb x 3 == limb y 3) && true)))
theorem eqB_eq (x y : BitVec 256) : eqB x y = decide (x = y) := by
  rw [Bool.eq_iff_iff]
  unfold eqB
  simp only [Bool.and_eq_true, beq_iff_eq, decide_eq_true_eq, and_true]
  constructor
  · rintro ⟨h0, h1, h2, h3⟩
    rw [← re_eq x, ← re_eq y]
    unfold re
    rw [h0, h1, h2, h3]
  · rintro rfl; exact ⟨rfl, rfl, rfl, rfl⟩
theorem allE_nil : AllE [] := trivial
theorem allE_cons {b c : Bool} {r : List (Bool × Bool)} (h : b = c) (hs : AllE r) : AllE ((b, c) :: r) := ⟨h, hs⟩
def eqZ4 (x : BitVec 256) : Bool := (((limb x 0).toNat : Int) == 0) && ((((limb x 1).toNat : Int) == 0) && ((((limb x 2).toNat : Int) == 0) && ((((limb x 3).toNat : Int) == 0) && true)))
theorem eqB_self (x : BitVec 256) : eqB x x = true := by rw [eqB_eq]; simp
end Go.Proofs.Ytjbleblllmbcbaa
