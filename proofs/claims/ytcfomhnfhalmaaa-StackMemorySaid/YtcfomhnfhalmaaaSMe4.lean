/- Parts of a proof, merged: EyO EyU EyF EyZ EyV StackA SPriceA SWordA SPriceB SPriceC SPriceD StackR Lab StackC EyFr EyWk StackE StackF StackG StackI StackJ0 StackJ1 StackJ StackL EyFp StackMa StackMb0 StackMb StackMc StackMp StackMr0 EyY EyIt StackQ StackT StackW StackH StackMd StackP0 StackV StackX StackX2 StackX3 EyWp EyX StackX4 EyRt StackY0 StackYc. No condition. -/
import Derived.Test.YtcfomhnfhalmaaaSMe3
import Derived.Test.YtcfomhnfhalmaaaProg
import Derived.WalkKit
import Derived.WalkSpells
import Derived.WalkLawsBesides
import Derived.Lib.Hide
import Derived.Handy
import Derived.Deep.RegionWith
import Derived.Deep.LoopGhost
import Derived.Laws.StructEq
import Derived.Laws.Cover2
import Derived.ScopeJumps
import Derived.OwnWalk
import Derived.Shelf.Abstract
import Derived.StillTail
import Derived.LoopNIn
import Derived.OwnWalkIn
import Derived.TacticsInMore
import Derived.LoopIn
section
set_option linter.unusedVariables false
set_option linter.unusedSimpArgs false
set_option maxRecDepth 100000
namespace Go.Proofs.Ytcfomhnfhalmaaa
open Go.RowKit

/-- Contracts of functions that make rows. -/
abbrev CtmF := List AV → Mem → (Nat → Bool) → Option (AV × Mem × List Bool)
def GoodM (P : Program) (R : Rws) (f : FuncId) (F : CtmF) : Prop := Enters P f ∧ ∀ args H wr v H' cs, F args H wr = some (v, H', cs) → (∀ c ∈ cs, c = true) → ∀ Hr w Args, RelL R (nums Hr) args Args → RelB R (nums Hr) H Hr → Apart H Hr → OwnK R H Hr w →
    Calls P f Args.toArray w fun e w' => ∃ V Hr', e = .returned V ∧ Rel R (nums Hr') v V ∧ RelB R (nums Hr') H' Hr' ∧ Apart H' Hr' ∧ OwnK R H' Hr' w' ∧ Stp wr Hr w Hr' w'
def lookCm : List (Nat × CtmF) → Nat → Option CtmF
  | [], _ => none
  | (g, F) :: r, f => bif Nat.beq f g then some F else lookCm r f
theorem lookCm_ok {P : Program} {R : Rws} : ∀ {T : List (Nat × CtmF)}, (∀ p ∈ T, GoodM P R p.1 p.2) → ∀ f F, lookCm T f = some F → GoodM P R f F
  | [], _, f, F, h => by cases h
  | (g, G) :: r, hT, f, F, h => by
    unfold lookCm at h
    cases hb : Nat.beq f g <;> simp only [hb, cond_true, cond_false] at h
    · exact lookCm_ok (fun p hp => hT p (List.mem_cons_of_mem _ hp)) f F h
    · cases h
      rw [Nat.eq_of_beq_eq_true hb]
      exact hT _ (List.mem_cons_self ..)
theorem goodM_nil {P : Program} {R : Rws} : ∀ p ∈ ([] : List (Nat × CtmF)), GoodM P R p.1 p.2 := fun p h => by cases h
theorem goodM_cons {P : Program} {R : Rws} {q : Nat × CtmF} {T : List (Nat × CtmF)} (h : GoodM P R q.1 q.2) (hT : ∀ p ∈ T, GoodM P R p.1 p.2) : ∀ p ∈ q :: T, GoodM P R p.1 p.2 := fun p hp => by
  rcases List.mem_cons.1 hp with rfl | hp
  · exact h
  · exact hT p hp
end Go.Proofs.Ytcfomhnfhalmaaa
end

section
set_option linter.unusedVariables false
set_option linter.unusedSimpArgs false
end

section
set_option linter.unusedVariables false
set_option linter.unusedSimpArgs false
set_option maxRecDepth 100000
namespace Go.Proofs.Ytcfomhnfhalmaaa
open Go.RowKit

mutual
/-- Labels renamed. -/
def mapA (σ : Nat → Nat) : AV → AV
  | .ptr l o => .ptr (σ l) o
  | .slice l o n c => .slice (σ l) o n c
  | .func fn cs => .func fn (mapL σ cs)
  | .agg cs => .agg (mapL σ cs)
  | .tuple cs => .tuple (mapL σ cs)
  | .gsl k l o n => .gsl k (σ l) o n
  | .gptr l i o => .gptr (σ l) i o
  | .mp l => .mp (σ l)
  | .meth fn fs cs => .meth fn (mapL σ fs) (mapL σ cs)
  | .bool l b => .bool l b
  | .int k l n => .int k l n
  | .bv k a => .bv k a
  | .raw v => .raw v
  | .rsl j n c => .rsl j n c
  | .rptr j i o => .rptr j i o
  | .xsl j o n => .xsl j o n
  | .junk => .junk
  | .str s => .str s
def mapL (σ : Nat → Nat) : List AV → List AV
  | [] => []
  | c :: r => mapA σ c :: mapL σ r
end
def mapI (σ : Nat → Nat) : AIt → AIt
  | .cells cs t => .cells (mapL σ cs) t
  | .row n s F t none => .row n s F t none
  | .row n s F t (some o) => .row n s F t (some (σ o))
  | .map m => .map m
  | .gone => .gone
variable {R : Rws}
mutual
theorem Rel.mapS {ρ ρ' : Nums} {σ : Nat → Nat} (hσ : ∀ (l : Nat) q, ρ[l]? = some q → ρ'[σ l]? = some q) : ∀ {v : AV} {V : Value}, Rel R ρ v V → Rel R ρ' (mapA σ v) V
  | _, _, .bool => .bool
  | _, _, .int => .int
  | _, _, .bv h => .bv h
  | _, _, .ptr h => .ptr (hσ _ _ h)
  | _, _, .slice h => .slice (hσ _ _ h)
  | _, _, .func h => .func (RelL.mapS hσ h)
  | _, _, .agg h => .agg (RelL.mapS hσ h)
  | _, _, .tuple h => .tuple (RelL.mapS hσ h)
  | _, _, .raw => .raw
  | _, _, .rsl h hc => .rsl h hc
  | _, _, .rptr h ha hi => .rptr h ha hi
  | _, _, .xsl h hn hc ha => .xsl h hn hc ha
  | _, _, .gsl h hn ha hk hm => .gsl (hσ _ _ h) hn ha hk hm
  | _, _, .gptr h => .gptr (hσ _ _ h)
  | _, _, .mp h => .mp (hσ _ _ h)
  | _, _, .meth h k => .meth (RelL.mapS hσ h) (RelL.mapS hσ k)
  | _, _, .junk => .junk
  | _, _, .str => .str
theorem RelL.mapS {ρ ρ' : Nums} {σ : Nat → Nat} (hσ : ∀ (l : Nat) q, ρ[l]? = some q → ρ'[σ l]? = some q) : ∀ {v : List AV} {V : List Value}, RelL R ρ v V → RelL R ρ' (mapL σ v) V
  | _, _, .nil => .nil
  | _, _, .cons h hs => .cons (Rel.mapS hσ h) (RelL.mapS hσ hs)
end
theorem RelI.mapS {ρ ρ' : Nums} {σ : Nat → Nat} (hσ : ∀ (l : Nat) q, ρ[l]? = some q → ρ'[σ l]? = some q) {it : AIt} {p : RBlk} (h : RelI R ρ it p) : RelI R ρ' (mapI σ it) p := by
  cases h with
  | cells h hp => exact .cells (RelL.mapS hσ h) hp
  | @row n s F t own b cur c h hc hn hm hs => cases own <;> exact .row h hc hn hm hs
  | @row0 s F t own b o hp => cases own <;> exact .row0 hp
  | map h hp => exact .map h hp
  | gone => exact .gone
theorem mapI_live {σ : Nat → Nat} (it : AIt) : (mapI σ it).live = it.live := by
  cases it with
  | row n s F t own => cases own <;> rfl
  | _ => rfl
theorem mapI_owner {σ : Nat → Nat} (it : AIt) (l : Nat) : (mapI σ it).owner (σ l) = σ (it.owner l) := by
  cases it with
  | row n s F t own => cases own <;> rfl
  | _ => rfl
theorem idxOf_some {l i : Nat} : ∀ {sel : List Nat}, nodupN sel = true → sel[i]? = some l → idxOf l sel = some i
  | [], _, h => by simp at h
  | x :: r, hn, h => by
    unfold nodupN at hn
    rw [Bool.and_eq_true] at hn
    unfold idxOf
    cases i with
    | zero =>
      simp at h; subst h
      rw [show Nat.beq x x = true from Nat.beq_refl x]; rfl
    | succ i =>
      have h : r[i]? = some l := by simpa using h
      have hne : Nat.beq l x = false := by
        rw [Bool.eq_false_iff]
        intro e
        have e := Nat.eq_of_beq_eq_true e
        subst e
        have hm : memN l r = true := memN_iff.2 (List.mem_of_getElem? h)
        rw [hm] at hn
        cases hn.1
      rw [hne, cond_false, idxOf_some hn.2 h]
      rfl
theorem idxOf_none {l : Nat} {sel : List Nat} (h : idxOf l sel = none) : l ∉ sel := by
  induction sel with
  | nil => simp
  | cons x r ih =>
    unfold idxOf at h
    cases hb : Nat.beq l x <;> simp only [hb, cond_true, cond_false] at h
    · rw [Option.map_eq_none_iff] at h
      intro hm
      rcases List.mem_cons.1 hm with rfl | hm
      · rw [show Nat.beq l l = true from Nat.beq_refl l] at hb; cases hb
      · exact ih h hm
    · cases h
/-- Where a label of the small memory lies in the large one. -/
def sigF (sel : List Nat) (n : Nat) (i : Nat) : Nat := match sel[i]? with
  | some l => l
  | none => n + (i - sel.length)
/-- The large memory, in which the selected labels are as the small one says; what was written through them is gone. -/
def frmH (sel : List Nat) (σ : Nat → Nat) (H0 H : Mem) : Mem := (H.mapIdx fun l it => match idxOf l sel with
  | some i => mapI σ (H0.getD i .gone)
  | none => bif memN (it.owner l) sel then .gone else it) ++ (H0.drop sel.length).map (mapI σ)
def frmR (sel : List Nat) (A Hr : List RBlk) : List RBlk := (Hr.mapIdx fun l p => match idxOf l sel with
  | some i => A.getD i p
  | none => p) ++ A.drop sel.length
theorem frmH_old {sel : List Nat} {σ : Nat → Nat} {H0 H : Mem} {l : Nat} (h : l < H.length) : (frmH sel σ H0 H)[l]? = some (match idxOf l sel with
  | some i => mapI σ (H0.getD i .gone)
  | none => bif memN ((H[l]).owner l) sel then .gone else H[l]) := by
  unfold frmH
  rw [List.getElem?_append_left (by simpa using h), List.getElem?_mapIdx, List.getElem?_eq_getElem h]
  rfl
theorem frmR_old {sel : List Nat} {A Hr : List RBlk} {l : Nat} (h : l < Hr.length) : (frmR sel A Hr)[l]? = some (match idxOf l sel with
  | some i => A.getD i Hr[l]
  | none => Hr[l]) := by
  unfold frmR
  rw [List.getElem?_append_left (by simpa using h), List.getElem?_mapIdx, List.getElem?_eq_getElem h]
  rfl
theorem frmH_new {sel : List Nat} {σ : Nat → Nat} {H0 H : Mem} {l : Nat} (h : H.length ≤ l) : (frmH sel σ H0 H)[l]? = (H0[sel.length + (l - H.length)]?).map (mapI σ) := by
  unfold frmH
  rw [List.getElem?_append_right (by simpa using h), List.getElem?_map, List.getElem?_drop]
  simp
theorem frmR_new {sel : List Nat} {A Hr : List RBlk} {l : Nat} (h : Hr.length ≤ l) : (frmR sel A Hr)[l]? = A[sel.length + (l - Hr.length)]? := by
  unfold frmR
  rw [List.getElem?_append_right (by simpa using h), List.getElem?_drop]
  simp
theorem nodup_inj {sel : List Nat} (h : nodupN sel = true) {i j l : Nat} (hi : sel[i]? = some l) (hj : sel[j]? = some l) : i = j := by
  have h1 := idxOf_some h hi
  rw [idxOf_some h hj] at h1
  exact (Option.some.inj h1).symm
theorem frame {P : Program} {f : FuncId} {sel : List Nat} {H H0 H0' : Mem} {args args0 : List AV} {v0 : AV} {wr wr0 : Nat → Bool} (hk : sel.length = H0.length) (hsel : nodupN sel = true)
    (hcall : ∀ Hr w Args, RelL R (nums Hr) args0 Args → RelB R (nums Hr) H0 Hr → Apart H0 Hr → OwnK R H0 Hr w → Calls P f Args.toArray w fun e w' => ∃ V Hr', e = .returned V ∧ Rel R (nums Hr') v0 V ∧ RelB R (nums Hr') H0' Hr' ∧ Apart H0' Hr' ∧ OwnK R H0' Hr' w' ∧ Stp wr0 Hr w Hr' w')
    (hH : ∀ i l : Nat, sel[i]? = some l → ∃ it jt, H[l]? = some it ∧ H0[i]? = some jt ∧ renI sel it = some jt) (ha : renL sel args = some args0) (hlive : liveB H0 = true)
    (hwr : ∀ i l : Nat, sel[i]? = some l → wr0 i = true → wr l = true) {Hr : List RBlk} {w : World} {Args : List Value} (hA : RelL R (nums Hr) args Args) (hB : RelB R (nums Hr) H Hr) (hn : Apart H Hr) (hO : OwnK R H Hr w) :
    Calls P f Args.toArray w fun e w' => ∃ V Hr', e = .returned V ∧ Rel R (nums Hr') (mapA (sigF sel H.length) v0) V ∧ RelB R (nums Hr') (frmH sel (sigF sel H.length) H0' H) Hr' ∧ Apart (frmH sel (sigF sel H.length) H0' H) Hr' ∧ OwnK R (frmH sel (sigF sel H.length) H0' H) Hr' w' ∧ Stp wr Hr w Hr' w' := by
  have hlen := hB.1
  have hv : ∀ l ∈ sel, l < Hr.length := fun l hl => by
    obtain ⟨i, hi⟩ := List.getElem?_of_mem hl
    obtain ⟨it, _, h1, _⟩ := hH i l hi
    rw [hlen]; exact (List.getElem?_eq_some_iff.1 h1).1
  have hρ : ∀ i l : Nat, sel[i]? = some l → (nums (pick sel Hr))[i]? = (nums Hr)[l]? := fun i l h => nums_pick hv i l h
  have hsm : ∀ i jt, H0[i]? = some jt → ∃ l it, sel[i]? = some l ∧ H[l]? = some it ∧ renI sel it = some jt := fun i jt h => by
    have hi : i < sel.length := by rw [hk]; exact (List.getElem?_eq_some_iff.1 h).1
    obtain ⟨it, jt', h1, h2, h3⟩ := hH i _ (List.getElem?_eq_getElem hi)
    rw [h] at h2; cases h2
    exact ⟨_, it, List.getElem?_eq_getElem hi, h1, h3⟩
  have hB0 : RelB R (nums (pick sel Hr)) H0 (pick sel Hr) := by
    refine ⟨by rw [pick_len hv, hk], fun i jt p h1 h2 => ?_⟩
    obtain ⟨l, it, e1, e2, e3⟩ := hsm i jt h1
    rw [pick_get hv i l e1] at h2
    exact RelI.ren hρ e3 (hB.2 l it p e2 h2)
  have hn0 : Apart H0 (pick sel Hr) := fun i j jt kt p q hne h1 h2 v1 v2 q1 q2 z1 z2 hb => by
    obtain ⟨l, it, e1, e2, e3⟩ := hsm i jt h1
    obtain ⟨m, lt, f1, f2, f3⟩ := hsm j kt h2
    rw [pick_get hv i l e1] at q1
    rw [pick_get hv j m f1] at q2
    have hlm : l ≠ m := fun e => by subst e; exact hne (nodup_inj hsel e1 f1)
    have := hn l m it lt p q hlm e2 f2 (by rw [← renI_live e3]; exact v1) (by rw [← renI_live f3]; exact v2) q1 q2 z1 z2 hb
    have g1 := renI_owner e3 e1
    rw [this] at g1
    exact nodup_inj hsel g1 (renI_owner f3 f1)
  have hO0 : OwnK R H0 (pick sel Hr) w := by
    refine ⟨fun i jt p h1 h2 hp => ?_, hO.2.sub fun b hb => ?_⟩
    · obtain ⟨l, it, e1, e2, e3⟩ := hsm i jt h1
      rw [pick_get hv i l e1] at h2
      obtain ⟨g1, g2⟩ := hO.1 l it p e2 h2 hp
      exact ⟨g1, fun h => g2 (by rw [← renI_live e3]; exact h)⟩
    · obtain ⟨q, h1, h2, h3⟩ := mem_bs.1 hb
      exact mem_bs.2 ⟨q, nums_pick_mem h1, h2, h3⟩
  refine (hcall _ w Args (RelL.ren hρ ha hA) hB0 hn0 hO0).mono ?_
  rintro e w' ⟨V, A, rfl, hV, hB', hn', hO', hS⟩
  obtain ⟨τ, hτ, hfr⟩ := hS.ext
  have hA1 : A.length = sel.length + τ.length := by
    have := congrArg List.length hτ
    simpa [nums, pick_len hv] using this
  have hA2 : A.length = H0'.length := hB'.1
  have hnp : (nums (pick sel Hr)).length = sel.length := by simp [nums, pick_len hv]
  have hnH : (nums Hr).length = H.length := by simp [nums, hlen]
  have hin : ∀ i, i < sel.length → (nums A)[i]? = (nums (pick sel Hr))[i]? := fun i hi => by
    rw [hτ, List.getElem?_append_left (by rw [hnp]; exact hi)]
  have hnum : nums (frmR sel A Hr) = nums Hr ++ τ := by
    refine List.ext_getElem? fun l => ?_
    by_cases hl : l < Hr.length
    · rw [List.getElem?_append_left (by rw [hnH, ← hlen]; exact hl)]
      show ((frmR sel A Hr).map RBlk.num)[l]? = _
      rw [List.getElem?_map, frmR_old hl]
      rcases hi : idxOf l sel with _ | i
      · simp [nums, hl]
      · have e1 := idxOf_get hi
        have hik : i < sel.length := (List.getElem?_eq_some_iff.1 e1).1
        have h1 := hin i hik
        rw [hρ i l e1] at h1
        have hiA : i < A.length := by omega
        simp only [Option.map_some, List.getD_eq_getElem?_getD, List.getElem?_eq_getElem hiA, Option.getD_some]
        rw [← h1]
        simp [nums, hiA]
    · rw [List.getElem?_append_right (by rw [hnH, ← hlen]; omega), hnH, ← hlen]
      show ((frmR sel A Hr).map RBlk.num)[l]? = _
      rw [List.getElem?_map, frmR_new (by omega)]
      have : (nums A)[sel.length + (l - Hr.length)]? = τ[l - Hr.length]? := by
        rw [hτ, List.getElem?_append_right (by omega), hnp]
        congr 1; omega
      rw [← this]
      simp [nums]
  have hσ : ∀ (i : Nat) q, (nums A)[i]? = some q → (nums (frmR sel A Hr))[sigF sel H.length i]? = some q := fun i q h => by
    rw [hnum]
    unfold sigF
    by_cases hi : i < sel.length
    · rw [List.getElem?_eq_getElem hi]
      have e1 := List.getElem?_eq_getElem hi
      have hl := hv _ (List.mem_of_getElem? e1)
      show (nums Hr ++ τ)[sel[i]]? = some q
      rw [List.getElem?_append_left (by rw [hnH, ← hlen]; exact hl), ← hρ i _ e1, ← hin i hi]
      exact h
    · rw [List.getElem?_eq_none (show sel.length ≤ i by omega)]
      show (nums Hr ++ τ)[H.length + (i - sel.length)]? = some q
      rw [List.getElem?_append_right (by omega), hnH]
      rw [hτ, List.getElem?_append_right (by omega), hnp] at h
      rw [← h]
      congr 1; omega
  have hsig : ∀ i l : Nat, sel[i]? = some l → sigF sel H.length i = l := fun i l h => by unfold sigF; rw [h]
  have hsign : ∀ i, sel.length ≤ i → sigF sel H.length i = H.length + (i - sel.length) := fun i h => by unfold sigF; rw [List.getElem?_eq_none h]
  have cls : ∀ L it p, (frmH sel (sigF sel H.length) H0' H)[L]? = some it → (frmR sel A Hr)[L]? = some p →
      (∃ i jt, sigF sel H.length i = L ∧ H0'[i]? = some jt ∧ A[i]? = some p ∧ it = mapI (sigF sel H.length) jt) ∨ (∃ it0, L ∉ sel ∧ H[L]? = some it0 ∧ Hr[L]? = some p ∧ ((it = it0 ∧ it0.owner L ∉ sel) ∨ it = .gone)) := fun L it p h1 h2 => by
    by_cases hl : L < H.length
    · rw [frmH_old hl] at h1
      rw [frmR_old (by omega)] at h2
      rcases hi : idxOf L sel with _ | i
      · rw [hi] at h1 h2
        simp only [Option.some.injEq] at h1 h2
        refine .inr ⟨H[L], idxOf_none hi, List.getElem?_eq_getElem hl, by rw [← h2]; exact List.getElem?_eq_getElem _, ?_⟩
        rcases hm : memN (H[L].owner L) sel with _ | _
        · rw [hm, cond_false] at h1
          exact .inl ⟨h1.symm, fun hmem => by rw [memN_iff.2 hmem] at hm; cases hm⟩
        · rw [hm, cond_true] at h1
          exact .inr h1.symm
      · rw [hi] at h1 h2
        simp only [Option.some.injEq] at h1 h2
        have e1 := idxOf_get hi
        have hik : i < sel.length := (List.getElem?_eq_some_iff.1 e1).1
        have hiA : i < A.length := by omega
        have hiH : i < H0'.length := by omega
        rw [List.getD_eq_getElem?_getD, List.getElem?_eq_getElem hiH, Option.getD_some] at h1
        rw [List.getD_eq_getElem?_getD, List.getElem?_eq_getElem hiA, Option.getD_some] at h2
        exact .inl ⟨i, H0'[i], hsig i L e1, List.getElem?_eq_getElem hiH, by rw [← h2]; exact List.getElem?_eq_getElem hiA, h1.symm⟩
    · rw [frmH_new (by omega), Option.map_eq_some_iff] at h1
      rw [frmR_new (by omega)] at h2
      obtain ⟨jt, g1, g2⟩ := h1
      refine .inl ⟨sel.length + (L - H.length), jt, ?_, g1, by rw [← hlen]; exact h2, g2.symm⟩
      rw [hsign _ (by omega)]
      omega
  have disj0 : ∀ (L : Nat) (it0 : AIt) (p : RBlk), L ∉ sel → H[L]? = some it0 → Hr[L]? = some p → it0.live = true → it0.owner L ∉ sel → p.num.ph = false → ∀ (i : Nat) (q : Num), (nums (pick sel Hr))[i]? = some q → q.ph = false → q.b ≠ p.b := by
    intro L it0 p hL h1 h2 hlv how hp i q hq hqp hb
    have hi : i < sel.length := by have := (List.getElem?_eq_some_iff.1 hq).1; omega
    have e1 := List.getElem?_eq_getElem hi
    obtain ⟨it, jt, g1, g2, g3⟩ := hH i _ e1
    have hl := hv _ (List.mem_of_getElem? e1)
    have e2 : Hr[sel[i]]? = some Hr[sel[i]] := List.getElem?_eq_getElem hl
    rw [hρ i _ e1] at hq
    have e3 : q = (Hr[sel[i]]).num := by
      simp only [nums, List.getElem?_map, e2, Option.map_some, Option.some.injEq] at hq
      exact hq.symm
    subst e3
    have hlive1 : it.live = true := by rw [← renI_live g3]; exact liveB_get hlive g2
    have := hn L sel[i] it0 it p _ (fun e => hL (by rw [e]; exact List.mem_of_getElem? e1)) h1 g1 hlv hlive1 h2 e2 hp hqp hb.symm
    rw [this] at how
    exact how (List.mem_of_getElem? (renI_owner g3 e1))
  have disj : ∀ (L : Nat) (it0 : AIt) (p : RBlk), L ∉ sel → H[L]? = some it0 → Hr[L]? = some p → it0.live = true → it0.owner L ∉ sel → p.num.ph = false → ∀ q ∈ nums A, q.ph = false → q.b ≠ p.b := by
    intro L it0 p hL h1 h2 hlv how hp q hq hqp hb
    rw [hτ] at hq
    rcases List.mem_append.1 hq with hq | hq
    · obtain ⟨i, hi⟩ := List.getElem?_of_mem hq
      exact disj0 L it0 p hL h1 h2 hlv how hp i q hi hqp hb
    · rcases hfr q hq hqp with h | ⟨i, p', g1, g2, g3, _⟩
      · have := own_lt hO.1 hlen h2 hp
        omega
      · exact disj0 L it0 p hL h1 h2 hlv how hp i p' g1 g2 (g3.trans hb)
  have hSb : Stp wr Hr w (frmR sel A Hr) w' := by
    refine ⟨hS.os, hS.tape, hS.output, hS.size, ⟨τ, hnum, fun q hq hqp => ?_⟩, fun b hb hno => hS.block b hb fun i q hq hqp hqb => ?_⟩
    · rcases hfr q hq hqp with g | ⟨i, p, g1, g2, g3, g4⟩
      · exact .inl g
      refine .inr ?_
      have hi : i < sel.length := by have := (List.getElem?_eq_some_iff.1 g1).1; omega
      have e1 := List.getElem?_eq_getElem hi
      exact ⟨sel[i], p, by rw [← hρ i _ e1]; exact g1, g2, g3, hwr i _ e1 g4⟩
    · have hi : i < sel.length := by have := (List.getElem?_eq_some_iff.1 hq).1; omega
      have e1 := List.getElem?_eq_getElem hi
      have := hno sel[i] q (by rw [← hρ i _ e1]; exact hq) hqp hqb
      rcases hw0 : wr0 i with _ | _
      · rfl
      · rw [hwr i _ e1 hw0] at this; cases this
  refine ⟨V, frmR sel A Hr, rfl, Rel.mapS hσ hV, ⟨?_, fun L it p h1 h2 => ?_⟩, fun L M it jt p q hne h1 h2 v1 v2 q1 q2 z1 z2 hb => ?_, ⟨fun L it p h1 h2 hp => ?_, hSb.rd hO.2⟩, hSb⟩
  · simp only [frmR, frmH, List.length_append, List.length_mapIdx, List.length_drop, List.length_map]
    omega
  · rcases cls L it p h1 h2 with ⟨i, jt, g1, g2, g3, rfl⟩ | ⟨it0, g1, g2, g3, ⟨rfl, g4⟩ | rfl⟩
    · exact RelI.mapS hσ (hB'.2 i jt p g2 g3)
    · rw [hnum]; exact (hB.2 L _ p g2 g3).grow τ
    · exact .gone
  · rcases cls L it p h1 q1 with ⟨i, it1, g1, g2, g3, rfl⟩ | ⟨it1, g1, g2, g3, ⟨rfl, g4⟩ | rfl⟩
    · rcases cls M jt q h2 q2 with ⟨j, jt1, k1, k2, k3, rfl⟩ | ⟨jt1, k1, k2, k3, ⟨rfl, k4⟩ | rfl⟩
      · rw [← g1, ← k1, mapI_owner, mapI_owner]
        have hij : i ≠ j := fun e => hne (by rw [← g1, ← k1, e])
        rw [hn' i j it1 jt1 p q hij g2 k2 (by rw [← mapI_live (σ := sigF sel H.length)]; exact v1) (by rw [← mapI_live (σ := sigF sel H.length)]; exact v2) g3 k3 z1 z2 hb]
      · exact absurd hb (disj M _ q k1 k2 k3 v2 k4 z2 p.num (List.mem_map.2 ⟨p, List.mem_of_getElem? g3, rfl⟩) z1)
      · cases v2
    · rcases cls M jt q h2 q2 with ⟨j, jt1, k1, k2, k3, rfl⟩ | ⟨jt1, k1, k2, k3, ⟨rfl, k4⟩ | rfl⟩
      · exact absurd hb.symm (disj L _ p g1 g2 g3 v1 g4 z1 q.num (List.mem_map.2 ⟨q, List.mem_of_getElem? k3, rfl⟩) z2)
      · exact hn L M _ _ p q hne g2 k2 v1 v2 g3 k3 z1 z2 hb
      · cases v2
    · cases v1
  · rcases cls L it p h1 h2 with ⟨i, jt, g1, g2, g3, rfl⟩ | ⟨it0, g1, g2, g3, ⟨rfl, g4⟩ | rfl⟩
    · obtain ⟨k1, k2⟩ := hO'.1 i jt p g2 g3 hp
      exact ⟨k1, fun h => k2 (by rw [← mapI_live (σ := sigF sel H.length)]; exact h)⟩
    · obtain ⟨k1, k2⟩ := hO.1 L _ p g2 g3 hp
      refine ⟨Nat.lt_of_lt_of_le k1 hS.size, fun hlv => ?_⟩
      rw [hS.block p.b k1 fun i q hq hqp hqb => absurd hqb (disj0 L _ p g1 g2 g3 hlv g4 hp i q hq hqp)]
      exact k2 hlv
    · exact ⟨Nat.lt_of_lt_of_le (own_lt hO.1 hlen g3 hp) hS.size, fun h => by cases h⟩
/-- Of a memory only these labels are kept. -/
theorem sel_mem {H' H'' : Mem} {Hr' : List RBlk} {w' : World} {sel : List Nat} (hnd : nodupN sel = true) (hlen : sel.length = H''.length) (hat : ∀ i l : Nat, sel[i]? = some l → ∃ it jt, H'[l]? = some it ∧ H''[i]? = some jt ∧ renI sel it = some jt) (hB : RelB R (nums Hr') H' Hr') (hn : Apart H' Hr') (hO : OwnK R H' Hr' w') :
    (∀ l ∈ sel, l < Hr'.length) ∧ RelB R (nums (pick sel Hr')) H'' (pick sel Hr') ∧ Apart H'' (pick sel Hr') ∧ OwnK R H'' (pick sel Hr') w' := by
  have hl := hB.1
  have hv : ∀ l ∈ sel, l < Hr'.length := fun l hl' => by
    obtain ⟨i, hi⟩ := List.getElem?_of_mem hl'
    obtain ⟨it, _, h1, _⟩ := hat i l hi
    rw [hl]; exact (List.getElem?_eq_some_iff.1 h1).1
  have hρ : ∀ i l : Nat, sel[i]? = some l → (nums (pick sel Hr'))[i]? = (nums Hr')[l]? := fun i l h => nums_pick hv i l h
  have hsm : ∀ i jt, H''[i]? = some jt → ∃ l it, sel[i]? = some l ∧ H'[l]? = some it ∧ renI sel it = some jt := fun i jt h => by
    have hi : i < sel.length := by rw [hlen]; exact (List.getElem?_eq_some_iff.1 h).1
    obtain ⟨it, jt', h1, h2, h3⟩ := hat i _ (List.getElem?_eq_getElem hi)
    rw [h] at h2; cases h2
    exact ⟨_, it, List.getElem?_eq_getElem hi, h1, h3⟩
  refine ⟨hv, ⟨by rw [pick_len hv, hlen], fun i jt p h1 h2 => ?_⟩, fun i j jt kt p q hne h1 h2 v1 v2 q1 q2 z1 z2 hb => ?_, fun i jt p h1 h2 hp => ?_, hO.2.sub fun b hb => ?_⟩
  · obtain ⟨l, it, e1, e2, e3⟩ := hsm i jt h1
    rw [pick_get hv i l e1] at h2
    exact RelI.ren hρ e3 (hB.2 l it p e2 h2)
  · obtain ⟨l, it, e1, e2, e3⟩ := hsm i jt h1
    obtain ⟨m, lt, f1, f2, f3⟩ := hsm j kt h2
    rw [pick_get hv i l e1] at q1
    rw [pick_get hv j m f1] at q2
    have hlm : l ≠ m := fun e => by subst e; exact hne (nodup_inj hnd e1 f1)
    have := hn l m it lt p q hlm e2 f2 (by rw [← renI_live e3]; exact v1) (by rw [← renI_live f3]; exact v2) q1 q2 z1 z2 hb
    have g1 := renI_owner e3 e1
    rw [this] at g1
    exact nodup_inj hnd g1 (renI_owner f3 f1)
  · obtain ⟨l, it, e1, e2, e3⟩ := hsm i jt h1
    rw [pick_get hv i l e1] at h2
    obtain ⟨g1, g2⟩ := hO.1 l it p e2 h2 hp
    exact ⟨g1, fun h => g2 (by rw [← renI_live e3]; exact h)⟩
  · obtain ⟨q, h1, h2, h3⟩ := mem_bs.1 hb
    exact mem_bs.2 ⟨q, nums_pick_mem h1, h2, h3⟩
/-- What is not needed behind a step is dropped; what was there before stays. -/
theorem stp_sel {wr : Nat → Bool} {Hr Hr' : List RBlk} {w w' : World} {sel : List Nat} (hnd : nodupN sel = true) (hv : ∀ l ∈ sel, l < Hr'.length) (hk : sel.take Hr.length = List.range Hr.length) (hS : Stp wr Hr w Hr' w') : Stp wr Hr w (pick sel Hr') w' := by
  obtain ⟨τ, hτ, hfr⟩ := hS.ext
  have hkl : Hr.length ≤ sel.length := by
    have := congrArg List.length hk
    simp at this
    omega
  have hlow : ∀ i, i < Hr.length → sel[i]? = some i := fun i hi => by
    have := congrArg (fun z : List Nat => z[i]?) hk
    simpa [List.getElem?_take, hi] using this
  have hnp : (nums (pick sel Hr')).length = sel.length := by simp [nums, pick_len hv]
  have hnH : (nums Hr).length = Hr.length := by simp [nums]
  have hget : ∀ i l : Nat, sel[i]? = some l → (nums (pick sel Hr'))[i]? = (nums Hr')[l]? := fun i l h => nums_pick hv i l h
  refine ⟨hS.os, hS.tape, hS.output, hS.size, ⟨(nums (pick sel Hr')).drop Hr.length, ?_, fun q hq hqp => ?_⟩, hS.block⟩
  · refine List.ext_getElem? fun i => ?_
    by_cases hi : i < Hr.length
    · rw [List.getElem?_append_left (by rw [hnH]; exact hi), hget i i (hlow i hi), hτ, List.getElem?_append_left (by rw [hnH]; exact hi)]
    · rw [List.getElem?_append_right (by rw [hnH]; omega), List.getElem?_drop, hnH]
      congr 1; omega
  · obtain ⟨j, hj⟩ := List.getElem?_of_mem hq
    rw [List.getElem?_drop] at hj
    have hjl : Hr.length + j < sel.length := by rw [← hnp]; exact (List.getElem?_eq_some_iff.1 hj).1
    have e1 := List.getElem?_eq_getElem hjl
    rw [hget _ _ e1] at hj
    have hge : Hr.length ≤ sel[Hr.length + j] := Nat.le_of_not_lt fun hlt => by
      have := nodup_inj hnd e1 (hlow _ hlt)
      omega
    rw [hτ, List.getElem?_append_right (by rw [hnH]; exact hge)] at hj
    exact hfr q (List.mem_of_getElem? hj) hqp
/-- What a call leaves behind that nobody needs is dropped. -/
theorem calls_sel {P : Program} {f : FuncId} {Args : Array Value} {w : World} {H0 H' H'' : Mem} {Hr : List RBlk} {v v' : AV} {wr : Nat → Bool} (sel : List Nat) (hnd : nodupN sel = true) (hk : sel.take H0.length = List.range H0.length) (hH : Hr.length = H0.length) (hlen : sel.length = H''.length) (hat : sel.map (fun l => (H'[l]?).bind (renI sel)) = H''.map some) (hv : renA sel v = some v')
    (h : Calls P f Args w fun e w' => ∃ V Hr', e = .returned V ∧ Rel R (nums Hr') v V ∧ RelB R (nums Hr') H' Hr' ∧ Apart H' Hr' ∧ OwnK R H' Hr' w' ∧ Stp wr Hr w Hr' w') :
    Calls P f Args w fun e w' => ∃ V Hr', e = .returned V ∧ Rel R (nums Hr') v' V ∧ RelB R (nums Hr') H'' Hr' ∧ Apart H'' Hr' ∧ OwnK R H'' Hr' w' ∧ Stp wr Hr w Hr' w' := by
  refine h.mono ?_
  rintro e w' ⟨V, Hr', rfl, hV, hB, hn, hO, hS⟩
  have hat' : ∀ i l : Nat, sel[i]? = some l → ∃ it jt, H'[l]? = some it ∧ H''[i]? = some jt ∧ renI sel it = some jt := fun i l hi => by
    have h2 := congrArg (fun z : List (Option AIt) => z[i]?) hat
    simp only [List.getElem?_map, hi, Option.map_some] at h2
    have hi' : i < H''.length := by rw [← hlen]; exact (List.getElem?_eq_some_iff.1 hi).1
    rw [List.getElem?_eq_getElem hi', Option.map_some, Option.some.injEq, Option.bind_eq_some_iff] at h2
    obtain ⟨p, h3, h4⟩ := h2
    exact ⟨p, _, h3, List.getElem?_eq_getElem hi', h4⟩
  obtain ⟨g1, g2, g3, g4⟩ := sel_mem hnd hlen hat' hB hn hO
  exact ⟨V, pick sel Hr', rfl, Rel.ren (fun i l h => nums_pick g1 i l h) hv hV, g2, g3, g4, stp_sel hnd g1 (by rw [hH]; exact hk) hS⟩
/-- A memory whose rows are told in another way. -/
def eqvI : AIt → AIt → Prop
  | .row n s F t own, .row n' s' G t' own' => n = n' ∧ s = s' ∧ t = t' ∧ own = own' ∧ ∀ i, i < n → AV.vals? (F i) = AV.vals? (G i)
  | a, b => a = b
theorem eqvI.rel {ρ : Nums} {a b : AIt} {p : RBlk} (h : eqvI a b) (hr : RelI R ρ a p) : RelI R ρ b p := by
  unfold eqvI at h
  split at h
  · obtain ⟨rfl, rfl, rfl, rfl, h⟩ := h
    cases hr with
    | row a1 c d e f => exact .row (fun i hi => by obtain ⟨U, u1, u2⟩ := a1 i hi; exact ⟨U, by rw [← h i hi]; exact u1, u2⟩) c d e f
    | row0 hp => exact .row0 hp
  · subst h; exact hr
theorem eqvI.live {a b : AIt} (h : eqvI a b) : b.live = a.live := by
  unfold eqvI at h
  split at h
  · obtain ⟨rfl, rfl, rfl, rfl, h⟩ := h
    rename_i own _; cases own <;> rfl
  · subst h; rfl
theorem eqvI.owner {a b : AIt} (h : eqvI a b) (l : Nat) : b.owner l = a.owner l := by
  unfold eqvI at h
  split at h
  · obtain ⟨rfl, rfl, rfl, rfl, h⟩ := h
    rename_i own _; cases own <;> rfl
  · subst h; rfl
def eqvM : Mem → Mem → Prop
  | [], [] => True
  | a :: r, b :: q => eqvI a b ∧ eqvM r q
  | _, _ => False
theorem eqvM.len : ∀ {H G : Mem}, eqvM H G → H.length = G.length
  | [], [], _ => rfl
  | _ :: _, _ :: _, h => by rw [List.length_cons, List.length_cons, eqvM.len h.2]
theorem eqvM.at : ∀ {H G : Mem}, eqvM H G → ∀ (l : Nat) b, G[l]? = some b → ∃ a, H[l]? = some a ∧ eqvI a b
  | [], [], _, l, b, h => by simp at h
  | a :: r, b :: q, h, 0, c, hc => by simp at hc; subst hc; exact ⟨a, rfl, h.1⟩
  | a :: r, b :: q, h, l + 1, c, hc => by
    obtain ⟨x, h1, h2⟩ := eqvM.at h.2 l c (by simpa using hc)
    exact ⟨x, by simpa using h1, h2⟩
theorem eqvM.mem {H G : Mem} {Hr : List RBlk} {w : World} (h : eqvM H G) (hB : RelB R (nums Hr) H Hr) (hn : Apart H Hr) (hO : OwnK R H Hr w) : RelB R (nums Hr) G Hr ∧ Apart G Hr ∧ OwnK R G Hr w := by
  refine ⟨⟨hB.1.trans h.len, fun l b p h1 h2 => ?_⟩, fun i j b c p q hne h1 h2 v1 v2 q1 q2 z1 z2 hb => ?_, fun l b p h1 h2 hp => ?_, hO.2⟩
  · obtain ⟨a, g1, g2⟩ := h.at l b h1
    exact g2.rel (hB.2 l a p g1 h2)
  · obtain ⟨a, g1, g2⟩ := h.at i b h1
    obtain ⟨d, k1, k2⟩ := h.at j c h2
    have := hn i j a d p q hne g1 k1 (by rw [← g2.live]; exact v1) (by rw [← k2.live]; exact v2) q1 q2 z1 z2 hb
    rw [g2.owner, k2.owner]; exact this
  · obtain ⟨a, g1, g2⟩ := h.at l b h1
    obtain ⟨k1, k2⟩ := hO.1 l a p g1 h2 hp
    exact ⟨k1, fun hl => k2 (by rw [← g2.live]; exact hl)⟩
end Go.Proofs.Ytcfomhnfhalmaaa
end

section
set_option linter.unusedVariables false
set_option linter.unusedSimpArgs false
set_option maxRecDepth 100000
namespace Go.Proofs.Ytcfomhnfhalmaaa
open Go.RowKit

inductive TIt where
  | it (a : AIt)
  | row (n s : Nat) (t : TypeId) (own : Option Nat) (L : List (List AV))
def tellI : AIt → TIt
  | .row n s F t own => .row n s t own ((List.range n).map F)
  | a => .it a
def TIt.real : TIt → AIt
  | .it a => a
  | .row n s t own L => .row n s (fun i => L.getD i []) t own
theorem eqvI.refl (a : AIt) : eqvI a a := by
  unfold eqvI
  split
  · exact ⟨rfl, rfl, rfl, rfl, fun _ _ => rfl⟩
  · rfl
theorem tell_eqv (a : AIt) : eqvI a (tellI a).real := by
  cases a with
  | row n s F t own =>
    refine ⟨rfl, rfl, rfl, rfl, fun i hi => ?_⟩
    show AV.vals? (F i) = AV.vals? (((List.range n).map F).getD i [])
    rw [List.getD_eq_getElem?_getD, List.getElem?_map, List.getElem?_range hi]
    rfl
  | cells => exact eqvI.refl _
  | gone => exact eqvI.refl _
  | map => exact eqvI.refl _
theorem eqvM.of : ∀ {H G : Mem}, H.length = G.length → (∀ (i : Nat) a b, H[i]? = some a → G[i]? = some b → eqvI a b) → eqvM H G
  | [], [], _, _ => trivial
  | a :: r, b :: q, hl, h => ⟨h 0 a b rfl rfl, eqvM.of (by simpa using hl) fun i x y hx hy => h (i + 1) x y (by simpa using hx) (by simpa using hy)⟩
def selT (sel : List Nat) (e0 : AExit) (live : List (Nat × AV)) (n : Nat) (T : List TIt) : AExit → ASt → Prop := fun e st =>
  (eqE e e0, st.tl.length, live.map (fun p => (st.tl[p.1]?).bind (renA sel)), sel.map (fun l => ((st.m.H[l]?).bind (renI sel)).map tellI), st.m.ds) = (true, n, live.map (fun p => some p.2), T.map some, ([] : List Bool))
abbrev selTR (live : List (Nat × AV)) (n : Nat) (T : List TIt) : Bool × Nat × List (Option AV) × List (Option TIt) × List Bool := (true, n, live.map (fun p => some p.2), T.map some, [])
section
variable {E : Env} (hE : EnvOK E) {Ds : List Nat} {n0 : Nat} {w0 : World}
include hE
/-- Code, however it ends; of the blocks only these are kept, rows of a known length are told by lists. -/
theorem ev_codeT (nf : Nat) (sel : List Nat) (e0 : AExit) {c : Code} {live live' : List (Nat × AV)} {n : Nat} {H : Mem} {T : List TIt} {ds ds' : List Bool} (hnd : nodupN sel = true) (h : ∀ r, Is (evT E nf (.code c) ⟨pat live r 0 n, ⟨H, ds, allW⟩⟩ (selT sel e0 live' n T)))
    {a : Act} {Hr : List RBlk} {w : World} {Q : Exit → Act → World → Prop} (hP : PatSt E.rows (Ds.map markD) live n ⟨H, ds', allW⟩ a Hr) (hB : Bun E.rows Ds n0 w0 H Hr w)
    (hk : ∀ a' Hr' w', PatSt E.rows (Ds.map markD) live' n ⟨T.map TIt.real, [], allW⟩ a' Hr' → Bun E.rows Ds n0 w0 (T.map TIt.real) Hr' w' → Q e0.real a' w') : c.wp E.P Q a w := by
  obtain ⟨r, hR⟩ := hP
  obtain ⟨e, st', h1, hlo, hs⟩ := ev_sound hE nf (.code c) _ _ (h r).is
  refine wp_mono (hs a Hr w hR hB.own) ?_
  rintro e' a' w' ⟨rfl, Hr', hR', hO', hS⟩
  unfold selT at h1
  simp only [Prod.mk.injEq] at h1
  obtain ⟨he, hn, hl, hH, hd⟩ := h1
  rw [eqE_eq he]
  have hB' := hB.stp hO' hS
  obtain ⟨vs, rfl, ht, hBl, hnod⟩ := hR'
  have hlen : T.length = sel.length := by have := congrArg List.length hH; simpa using this.symm
  have hat0 : ∀ i l : Nat, sel[i]? = some l → ∃ it jt, st'.m.H[l]? = some it ∧ renI sel it = some jt ∧ T[i]? = some (tellI jt) := fun i l hi => by
    have h2 := congrArg (fun z : List (Option TIt) => z[i]?) hH
    simp only [List.getElem?_map, hi, Option.map_some] at h2
    have hi' : i < T.length := by rw [hlen]; exact (List.getElem?_eq_some_iff.1 hi).1
    rw [List.getElem?_eq_getElem hi', Option.map_some, Option.some.injEq, Option.map_eq_some_iff] at h2
    obtain ⟨jt, h3, h4⟩ := h2
    rw [Option.bind_eq_some_iff] at h3
    obtain ⟨it, h5, h6⟩ := h3
    exact ⟨it, jt, h5, h6, by rw [List.getElem?_eq_getElem hi', h4]⟩
  let H1 : Mem := sel.map fun l => ((st'.m.H[l]?).bind (renI sel)).getD .gone
  have hH1 : ∀ i l : Nat, sel[i]? = some l → ∃ it jt, st'.m.H[l]? = some it ∧ H1[i]? = some jt ∧ renI sel it = some jt := fun i l hi => by
    obtain ⟨it, jt, h3, h4, _⟩ := hat0 i l hi
    exact ⟨it, jt, h3, by simp [H1, List.getElem?_map, hi, h3, h4], h4⟩
  obtain ⟨g1, g2, g3, g4⟩ := sel_mem (H'' := H1) hnd (by simp [H1]) hH1 hBl hnod hO'
  have heq : eqvM H1 (T.map TIt.real) := by
    refine eqvM.of (by simp [H1, hlen]) fun i a b ha hb => ?_
    have hi : i < sel.length := by have := (List.getElem?_eq_some_iff.1 ha).1; simpa [H1] using this
    obtain ⟨it, jt, h3, h4, h5⟩ := hat0 i _ (List.getElem?_eq_getElem hi)
    obtain ⟨it', jt', k1, k2, k3⟩ := hH1 i _ (List.getElem?_eq_getElem hi)
    rw [h3] at k1; cases k1
    rw [h4] at k3; cases k3
    rw [k2] at ha; cases ha
    rw [List.getElem?_map, h5] at hb
    cases hb
    exact tell_eqv _
  obtain ⟨k1, k2, k3⟩ := heq.mem g2 g3 g4
  obtain ⟨tl', t1, t2, t3⟩ := lives_ren (fun i l h => nums_pick g1 i l h) ht hl
  have hP' : PatSt E.rows (Ds.map markD) live' n ⟨T.map TIt.real, [], allW⟩ ⟨vs.toArray, Ds.map markD⟩ (pick sel Hr') :=
    patSt_of (live := live) (st := ⟨tl', ⟨T.map TIt.real, [], allW⟩⟩) ⟨vs, rfl, t1, k1, k2⟩ (by rw [t2]; exact hn) t3
  have hsub : ∀ b, b ∈ bs (nums (pick sel Hr')) → b ∈ bs (nums Hr') := fun b hb => by
    rw [mem_bs] at hb ⊢
    obtain ⟨q, hq, e⟩ := hb
    exact ⟨q, nums_pick_mem hq, e⟩
  refine hk _ _ w' hP' ⟨k3, fun D hD => ?_, hB'.nodup, fun b hb hbp => hB'.fresh b (nums_pick_mem hb) hbp, hB'.below, hB'.size⟩
  obtain ⟨q1, q2, q3⟩ := hB'.marks D hD
  exact ⟨q1, fun hm => q2 (hsub _ hm), q3⟩
end
end Go.Proofs.Ytcfomhnfhalmaaa
end

section
set_option linter.unusedVariables false
set_option linter.unusedSimpArgs false
namespace Go.Proofs.Ytcfomhnfhalmaaa
open Go.RowKit

/-- What slices.Clone makes of a slice whose elements have s cells. -/
def cloneF (s : Nat) (e : TypeId) (R : Rws) : List AV → Mem → (Nat → Bool) → Option (AV × Mem × List Bool)
  | [x], H, _ => match newsA R H s x with
    | some (m, G, cs) => some (.gsl .top (H.length + 1) 0 m, H ++ [.gone, .row m s G e none], decide (m ≤ 1000000) :: cs)
    | none => none
  | _, _, _ => none
theorem newsA_grow {R : Rws} {H T : Mem} {s : Nat} {x : AV} {r : Nat × (Nat → List AV) × List Bool} (h : newsA R H s x = some r) : newsA R (H ++ T) s x = some r := by
  unfold newsA at h
  split at h
  · rename_i l o m c
    split at h
    · rename_i cs t hl
      unfold newsA
      simp only [getElem?_append_some hl]
      exact h
    · cases h
  · rename_i k l off m
    split at h
    · rename_i n s' F t own hl
      unfold newsA
      simp only [getElem?_append_some hl]
      exact h
    · cases h
  · exact h
  · exact h
  · exact h
  · cases h
theorem newsA_val {R : Rws} {ρ : Nums} {H : Mem} {s m : Nat} {x : AV} {V : Value} {G : Nat → List AV} {cs : List Bool} (hRw : RwOK R) (h : newsA R H s x = some (m, G, cs)) (hx : Rel R ρ x V) : ∃ A c, V = .slice A m c ∧ (A = none → m = 0) := by
  unfold newsA at h
  split at h
  · split at h
    · rename_i l o m' c cs' t hl
      cases hx with | slice hq =>
      rw [Bool.cond_eq_ite] at h
      split at h
      · cases h
        exact ⟨_, _, rfl, fun e => by cases e⟩
      · cases h
    · cases h
  · split at h
    · cases hx with | gsl hq hn ha hk hm =>
      split at h
      · cases h
        refine ⟨_, _, rfl, fun e => ?_⟩
        rcases ha with ha | ⟨ha, _⟩
        · exact ha
        · rw [ha] at e; cases e
      · cases h
    · cases h
  · cases hx; cases h
    exact ⟨_, _, rfl, fun _ => rfl⟩
  · split at h
    · rename_i j m' c' r hr
      cases hx with | rsl hj hc =>
      rw [hr] at hj
      cases hj
      split at h
      · cases h
        refine ⟨_, _, rfl, fun e => ?_⟩
        rcases Nat.eq_zero_or_pos r.n with h0 | h0
        · exact h0
        · obtain ⟨b, off, hA⟩ := hRw.addr _ _ hr h0
          rw [hA] at e; cases e
      · cases h
    · cases h
  · split at h
    · rename_i j off0 m' r hr
      cases hx with | xsl hj hn hc hA =>
      rw [hr] at hj
      cases hj
      split at h
      · cases h
        refine ⟨_, _, rfl, fun e => ?_⟩
        rcases hA with h0 | h0
        · exact h0
        · rcases Nat.eq_zero_or_pos m with h1 | h1
          · exact h1
          · obtain ⟨b, off, hA2⟩ := hRw.addr _ _ hr (by omega)
            rw [h0, hA2] at e; cases e
      · cases h
    · cases h
  · cases h
theorem gone_set {R : Rws} {ρ : Nums} {H : Mem} {Hr : List RBlk} {w : World} {l : Nat} {it : AIt} (hl : H[l]? = some it) (hB : RelB R ρ H Hr) (hA : Apart H Hr) (hO : OwnM H Hr w) : RelB R ρ (H.set l .gone) Hr ∧ Apart (H.set l .gone) Hr ∧ OwnM (H.set l .gone) Hr w := by
  refine ⟨relB_same hB hl fun p _ => .gone, fun k m jt kt p q hne h1 h2 v1 v2 q1 q2 z1 z2 hb => ?_, fun k jt p h1 h2 hq => ?_⟩
  · rcases set_get h1 with ⟨rfl, rfl⟩ | ⟨_, h3⟩
    · cases v1
    · rcases set_get h2 with ⟨rfl, rfl⟩ | ⟨_, h4⟩
      · cases v2
      · exact hA k m jt kt p q hne h3 h4 v1 v2 q1 q2 z1 z2 hb
  · rcases set_get h1 with ⟨rfl, rfl⟩ | ⟨_, h3⟩
    · exact ⟨(hO _ _ p hl h2 hq).1, fun h => by cases h⟩
    · exact hO k jt p h3 h2 hq
theorem clone_nil {R : Rws} {H : Mem} {Hr : List RBlk} {w w' : World} {m s : Nat} {G : Nat → List AV} {e : TypeId} {wr : Nat → Bool} (hs : 0 < s) (hm : m = 0) (hB : RelB R (nums Hr) H Hr) (hA : Apart H Hr) (hO : OwnK R H Hr w) (hb : Below w.heap.size w w') :
    ∃ Hr', Rel R (nums Hr') (.gsl .top (H.length + 1) 0 m) (.slice none 0 0) ∧ RelB R (nums Hr') (H ++ [.gone, .row m s G e none]) Hr' ∧ Apart (H ++ [.gone, .row m s G e none]) Hr' ∧ OwnK R (H ++ [.gone, .row m s G e none]) Hr' w' ∧ Stp wr Hr w Hr' w' := by
  subst hm
  have hno : (noBlk s).num.ph = false → ∀ {p : Prop}, p := fun h => by rw [noBlk_ph hs] at h; cases h
  have hn : nums (Hr ++ [noBlk s] ++ [noBlk s]) = nums Hr ++ [(noBlk s).num, (noBlk s).num] := by simp [nums]
  have hH : H ++ [AIt.gone, .row 0 s G e none] = H ++ [.gone] ++ [.row 0 s G e none] := by simp
  have hS : Stp wr Hr w (Hr ++ [noBlk s] ++ [noBlk s]) w' := ⟨hb.os, hb.tape, hb.output, hb.size, ⟨_, hn, fun q hq hqp => by
    simp only [List.mem_cons, List.not_mem_nil, or_false, or_self] at hq
    rw [hq, noBlk_ph hs] at hqp; cases hqp⟩, fun k hk _ => hb.block k hk⟩
  have hl1 : (Hr ++ [noBlk s]).length = (H ++ [AIt.gone]).length := by simp [hB.1]
  have ho1 : ∀ {u}, Below w.heap.size w u → OwnM (H ++ [.gone]) (Hr ++ [noBlk s]) u := fun hu => own_new hO.1 hB.1 hu (fun h => hno h)
  refine ⟨Hr ++ [noBlk s] ++ [noBlk s], ?_, ?_, ?_, ⟨?_, hS.rd hO.2⟩, hS⟩
  · refine rel_gsl_no (q := (noBlk s).num) ?_
    rw [hn, List.getElem?_append_right (by simp [nums, hB.1])]
    simp [nums, hB.1]
  · rw [hn, hH]
    exact ((hB.grow _).snoc .gone).snoc (.row0 (noBlk_ph hs))
  · rw [hH]
    exact apart_new (apart_new hA hO.1 hB.1 (fun h => hno h)) (ho1 (Below.refl _ _)) hl1 (fun h => hno h)
  · rw [hH]
    exact own_new (ho1 hb) hl1 (Below.refl _ _) (fun h => hno h)
theorem clone_end {R : Rws} {ρ : Nums} {H : Mem} {Hr : List RBlk} {w : World} {m s : Nat} {G : Nat → List AV} {e : TypeId} (hB : RelB R ρ (H ++ [.cells [] e] ++ [.row m s G e none]) Hr) (hA : Apart (H ++ [.cells [] e] ++ [.row m s G e none]) Hr) (hO : OwnM (H ++ [.cells [] e] ++ [.row m s G e none]) Hr w) :
    RelB R ρ (H ++ [.gone, .row m s G e none]) Hr ∧ Apart (H ++ [.gone, .row m s G e none]) Hr ∧ OwnM (H ++ [.gone, .row m s G e none]) Hr w := by
  have hl : (H ++ [AIt.cells [] e] ++ [AIt.row m s G e none])[H.length]? = some (.cells [] e) := by simp
  have hs : (H ++ [AIt.cells [] e] ++ [AIt.row m s G e none]).set H.length .gone = H ++ [.gone, .row m s G e none] := by simp
  have := gone_set hl hB hA hO
  rwa [hs] at this
end Go.Proofs.Ytcfomhnfhalmaaa
end

section
set_option linter.unusedVariables false
set_option linter.unusedSimpArgs false
set_option maxRecDepth 100000
namespace Go.Proofs.Ytcfomhnfhalmaaa
open Go.RowKit

theorem allT_of : ∀ {cs : List Bool} {p : Prop}, (∀ c ∈ cs, c = true) → p → allT cs p
  | [], p, _, hp => hp
  | c :: r, p, h, hp => ⟨h c (by simp), allT_of (fun x hx => h x (by simp [hx])) hp⟩
theorem cloneF_inv {s : Nat} {e : TypeId} {R : Rws} {args : List AV} {H H' : Mem} {wr : Nat → Bool} {v : AV} {cs : List Bool} (h : cloneF s e R args H wr = some (v, H', cs)) : ∃ x m G cs', args = [x] ∧ newsA R H s x = some (m, G, cs') ∧ v = .gsl .top (H.length + 1) 0 m ∧ H' = H ++ [.gone, .row m s G e none] ∧ cs = decide (m ≤ 1000000) :: cs' := by
  rcases args with _ | ⟨x, _ | ⟨y, rest⟩⟩
  · cases h
  · simp only [cloneF] at h
    cases hn : newsA R H s x with
    | none => rw [hn] at h; cases h
    | some q =>
      obtain ⟨m, G, cs'⟩ := q
      rw [hn] at h; cases h
      exact ⟨x, m, G, cs', rfl, hn, rfl, rfl, rfl⟩
  · cases h
noncomputable def EV0 (R : Rws) : Env := ⟨Try.prog, eqsK Try.prog, R, fun _ => none, fun _ => none, fun _ => false, fun _ => false, fun _ => false⟩
theorem hEV0 {R : Rws} (hR : RwOK R) : EnvOK (EV0 R) := ⟨eqsK_ok, hR, fun f F h => (by cases h), fun f F h => (by cases h), rfl⟩
noncomputable def cvT : TypeId := Try.f35.params.toList.headD 0
noncomputable def cvE : TypeId := match Try.prog.underlying cvT with
  | some (.slice e) => e
  | _ => 0
noncomputable def cvB : Code := dropSeq 2 (Try.f35.body.getD .skip)
noncomputable def cvO : List Oper := regOps (sL cvB)
theorem cvn {R : Rws} (c : Nat) : Is (evCall (EV0 R) 60 35 [.raw (.slice none 0 c)] ⟨[], [], fun _ => true⟩ (fun v _ => v = .raw (.slice none 0 0))) := ev_eq [] (AV.raw (.slice none 0 0)) (by kernel_rfl) trivial
theorem cva {R : Rws} (H : Mem) (wr : Nat → Bool) (a : Addr) (n c : Nat) : ∀ r, Is (evCs (EV0 R) 60 (takeSeq 2 (Try.f35.body.getD .skip)) ⟨pat (inLive 0 [(.raw (.slice (some a) n c))]) r 0 Try.f35.ntmps, ⟨H, [], wr⟩⟩ (chK [(0, (.raw (.slice (some a) n c)))] Try.f35.ntmps H [])) := fun r => ev_eq [] (chR [(0, (.raw (.slice (some a) n c)))] Try.f35.ntmps H []) (by kernel_rfl) trivial
theorem cvb {R : Rws} (H : Mem) (wr : Nat → Bool) (V : Value) : ∀ r, Is (listP (EV0 R) (callWith (EV0 R) (evT (EV0 R) 60)) cvO (cvO.take 1) ⟨pat [(0, .raw V)] r 0 Try.f35.ntmps, ⟨H, [], wr⟩⟩ (chK [(0, .raw V), (5, .slice H.length 0 0 0)] Try.f35.ntmps (H ++ [AIt.cells [] cvE]) [] .normal)) := fun r => ev_eq [] (chR [(0, .raw V), (5, .slice H.length 0 0 0)] Try.f35.ntmps (H ++ [AIt.cells [] cvE]) []) (by kernel_rfl) trivial
theorem cvc {R : Rws} (H : Mem) (wr : Nat → Bool) (x : AV) (L : Nat) : ∀ r, Is (listP (EV0 R) (callWith (EV0 R) (evT (EV0 R) 60)) cvO ((cvO.drop 1).take 1) ⟨pat [(0, x), (5, .slice L 0 0 0)] r 0 Try.f35.ntmps, ⟨H, [], wr⟩⟩ (chK [(6, x), (5, .slice L 0 0 0)] Try.f35.ntmps H [] .normal)) := fun r => ev_eq [] (chR [(6, x), (5, .slice L 0 0 0)] Try.f35.ntmps H []) (by kernel_rfl) trivial
theorem cvap (R : Rws) (H : Mem) (x : AV) (L : Nat) : appendA Try.prog R H cvT (.slice L 0 0 0) x = (match newsA R H 5 x with
    | some (m, G, cs) => some (.newR m 5 G cvE (decide (m ≤ 1000000) :: cs))
    | none => none) := by kernel_rfl
theorem cvd {R : Rws} (H : Mem) (wr : Nat → Bool) (x : AV) (L : Nat) (r : Nat → Value) (K : ASt → Prop) : listP (EV0 R) (callWith (EV0 R) (evT (EV0 R) 60)) cvO ((cvO.drop 2).take 1) ⟨pat [(6, x), (5, .slice L 0 0 0)] r 0 Try.f35.ntmps, ⟨H, [], wr⟩⟩ K = (match appendA Try.prog R H cvT (.slice L 0 0 0) x with
    | some q => resP false q ((cvO.drop 2).headD ⟨none, .assign (.tmp 0), 0, "", #[], none⟩) ⟨pat [(6, x), (5, .slice L 0 0 0)] r 0 Try.f35.ntmps, ⟨H, [], wr⟩⟩ K
    | none => False) := by kernel_rfl
theorem cve {R : Rws} (H : Mem) (wr : Nat → Bool) (x : AV) (L m l : Nat) (G : Nat → List AV) (r : Nat → Value) : Is ((fun st : ASt => chK [(7, .gsl .top l 0 m)] Try.f35.ntmps (H ++ [.row m 5 G cvE none]) [] .normal st) ⟨putA (pat [(6, x), (5, .slice L 0 0 0)] r 0 Try.f35.ntmps) (some 7) (.gsl .top l 0 m), ⟨H ++ [.row m 5 G cvE none], [], wr⟩⟩) := ev_eq [] (chR [(7, .gsl .top l 0 m)] Try.f35.ntmps (H ++ [.row m 5 G cvE none]) []) (by kernel_rfl) trivial
theorem cvf {R : Rws} (H : Mem) (wr : Nat → Bool) (x : AV) : ∀ r, Is (listP (EV0 R) (callWith (EV0 R) (evT (EV0 R) 60)) cvO (((cvO.drop 2).drop 1).take 1) ⟨pat [(7, x)] r 0 Try.f35.ntmps, ⟨H, [], wr⟩⟩ (chK [(2, x)] Try.f35.ntmps H [] .normal)) := fun r => ev_eq [] (chR [(2, x)] Try.f35.ntmps H []) (by kernel_rfl) trivial
theorem cvz {R : Rws} (H : Mem) (wr : Nat → Bool) (x : AV) : ∀ r, Is (evT (EV0 R) 60 (.code (sR cvB)) ⟨pat [(2, x)] r 0 Try.f35.ntmps, ⟨H, [], wr⟩⟩ (chE .ret [(2, x)] Try.f35.ntmps H [])) := fun r => ev_eq [] (chR [(2, x)] Try.f35.ntmps H []) (by kernel_rfl) trivial
theorem cvany {R : Rws} (hR : RwOK R) (args : List AV) (H : Mem) (wr : Nat → Bool) (v : AV) (H' : Mem) (cs : List Bool) (hF : cloneF 5 cvE R args H wr = some (v, H', cs)) (hcs : ∀ c ∈ cs, c = true) (Hr : List RBlk) (w : World) (Args : List Value) (ha : RelL R (nums Hr) args Args) (hB : RelB R (nums Hr) H Hr) (hA : Apart H Hr) (hO : OwnK R H Hr w) :
    Calls Try.prog 35 Args.toArray w fun e w' => ∃ V Hr', e = .returned V ∧ Rel R (nums Hr') v V ∧ RelB R (nums Hr') H' Hr' ∧ Apart H' Hr' ∧ OwnK R H' Hr' w' ∧ Stp wr Hr w Hr' w' := by
  obtain ⟨x, m, G, cs', rfl, hn, rfl, rfl, rfl⟩ := cloneF_inv hF
  cases ha with | cons hx hnil =>
  cases hnil
  have hE := hEV0 hR
  obtain ⟨A, c, rfl, hA0⟩ := newsA_val hR hn hx
  cases A with
  | none =>
    obtain rfl := hA0 rfl
    refine (ev_calls_rd hE 60 (cvn c).is rfl (.cons .raw .nil) w (hO.2.sub (by simp))).mono fun e w' ⟨he, hb⟩ => ?_
    obtain ⟨Hr', h1, h2, h3, h4, h5⟩ := clone_nil (s := 5) (G := G) (e := cvE) (wr := wr) (by decide) rfl hB hA hO hb
    exact ⟨_, Hr', he, h1, h2, h3, h4, h5⟩
  | some a =>
    refine ev_enterH (E := (EV0 R)) (fn := Try.f35) (c := (Try.f35.body.getD .skip)) Try.func35 (by kernel_rfl) (args := [.raw (.slice (some a) m c)]) (show 1 ≤ Try.f35.ntmps by decide) (.cons .raw .nil) hB hA hO (ds := []) (wr := wr) fun a0 hP hBn => ?_
    refine ev_seqs hE 60 2 (cva H wr a m c) hP hBn fun a1 Hr1 w1 hP1 hB1 hS1 => ?_
    refine wp_parts (c := cvB) (by kernel_rfl) (wp_reg (by kernel_rfl) ?_)
    refine ev_ops hE 60 1 (ops := cvO) (l := cvO) (cvb H wr _) hP1 hB1 fun a2 Hr2 w2 hP2 hB2 hS2 => ?_
    have hS12 := hS1.trans hS2
    obtain ⟨σ, hσ, _⟩ := hS12.ext
    have hx2 : Rel R (nums Hr2) x (.slice (some a) m c) := by rw [hσ]; exact hx.grow σ
    have hP3 := PatSt.swap hP2 hx2
    refine ev_ops hE 60 1 (ops := cvO) (l := cvO.drop 1) (cvc (H ++ [AIt.cells [] cvE]) wr x H.length) hP3 hB2 fun a4 Hr4 w4 hP4 hB4 hS4 => ?_
    have hap : ∀ r, Is (listP (EV0 R) (callWith (EV0 R) (evT (EV0 R) 60)) cvO ((cvO.drop 2).take 1) ⟨pat [(6, x), (5, .slice H.length 0 0 0)] r 0 Try.f35.ntmps, ⟨(H ++ [AIt.cells [] cvE]), [], wr⟩⟩ (chK [(7, .gsl .top (H.length + 1) 0 m)] Try.f35.ntmps (H ++ [.cells [] cvE] ++ [.row m 5 G cvE none]) [] .normal)) := fun r => by
      constructor
      rw [cvd, cvap, newsA_grow hn]
      simp only [resP, cond_false]
      refine allT_of hcs ?_
      have hl : (H ++ [AIt.cells [] cvE]).length = H.length + 1 := by simp
      have := (cve (R := R) (H ++ [AIt.cells [] cvE]) wr x H.length m (H.length + 1) G r).is
      rw [← hl] at this ⊢
      exact this
    refine ev_ops hE 60 1 (ops := cvO) (l := cvO.drop 2) hap hP4 hB4 fun a5 Hr5 w5 hP5 hB5 hS5 => ?_
    refine ev_ops hE 60 1 (ops := cvO) (l := (cvO.drop 2).drop 1) (cvf (H ++ [.cells [] cvE] ++ [.row m 5 G cvE none]) wr _) hP5 hB5 fun a6 Hr6 w6 hP6 hB6 hS6 => ?_
    refine wpList_nil ?_
    refine ev_codeE hE 60 .ret (cvz (H ++ [.cells [] cvE] ++ [.row m 5 G cvE none]) wr _) hP6 hB6 fun a7 Hr7 w7 hP7 hB7 hS7 => ?_
    have hS := (((hS12.trans hS4).trans hS5).trans hS6).trans hS7
    obtain ⟨rr, vv, _, _, hBl, hAp⟩ := id hP7
    obtain ⟨g1, g2, g3⟩ := clone_end hBl hAp hB7.own.1
    refine ev_endH hE (r := .gsl .top (H.length + 1) 0 m) (fun rs => by kernel_rfl) hP7 hB7 (fun V hv => ⟨V, Hr7, rfl, hv, g1, g2, ⟨g3, hB7.own.2⟩, hS⟩) (.inl rfl)
noncomputable def ccT : TypeId := Try.f49.params.toList.headD 0
noncomputable def ccE : TypeId := match Try.prog.underlying ccT with
  | some (.slice e) => e
  | _ => 0
noncomputable def ccB : Code := dropSeq 2 (Try.f49.body.getD .skip)
noncomputable def ccO : List Oper := regOps (sL ccB)
theorem ccn {R : Rws} (c : Nat) : Is (evCall (EV0 R) 60 49 [.raw (.slice none 0 c)] ⟨[], [], fun _ => true⟩ (fun v _ => v = .raw (.slice none 0 0))) := ev_eq [] (AV.raw (.slice none 0 0)) (by kernel_rfl) trivial
theorem cca {R : Rws} (H : Mem) (wr : Nat → Bool) (a : Addr) (n c : Nat) : ∀ r, Is (evCs (EV0 R) 60 (takeSeq 2 (Try.f49.body.getD .skip)) ⟨pat (inLive 0 [(.raw (.slice (some a) n c))]) r 0 Try.f49.ntmps, ⟨H, [], wr⟩⟩ (chK [(0, (.raw (.slice (some a) n c)))] Try.f49.ntmps H [])) := fun r => ev_eq [] (chR [(0, (.raw (.slice (some a) n c)))] Try.f49.ntmps H []) (by kernel_rfl) trivial
theorem ccb {R : Rws} (H : Mem) (wr : Nat → Bool) (V : Value) : ∀ r, Is (listP (EV0 R) (callWith (EV0 R) (evT (EV0 R) 60)) ccO (ccO.take 1) ⟨pat [(0, .raw V)] r 0 Try.f49.ntmps, ⟨H, [], wr⟩⟩ (chK [(0, .raw V), (5, .slice H.length 0 0 0)] Try.f49.ntmps (H ++ [AIt.cells [] ccE]) [] .normal)) := fun r => ev_eq [] (chR [(0, .raw V), (5, .slice H.length 0 0 0)] Try.f49.ntmps (H ++ [AIt.cells [] ccE]) []) (by kernel_rfl) trivial
theorem ccc {R : Rws} (H : Mem) (wr : Nat → Bool) (x : AV) (L : Nat) : ∀ r, Is (listP (EV0 R) (callWith (EV0 R) (evT (EV0 R) 60)) ccO ((ccO.drop 1).take 1) ⟨pat [(0, x), (5, .slice L 0 0 0)] r 0 Try.f49.ntmps, ⟨H, [], wr⟩⟩ (chK [(6, x), (5, .slice L 0 0 0)] Try.f49.ntmps H [] .normal)) := fun r => ev_eq [] (chR [(6, x), (5, .slice L 0 0 0)] Try.f49.ntmps H []) (by kernel_rfl) trivial
theorem ccap (R : Rws) (H : Mem) (x : AV) (L : Nat) : appendA Try.prog R H ccT (.slice L 0 0 0) x = (match newsA R H 2 x with
    | some (m, G, cs) => some (.newR m 2 G ccE (decide (m ≤ 1000000) :: cs))
    | none => none) := by kernel_rfl
theorem ccd {R : Rws} (H : Mem) (wr : Nat → Bool) (x : AV) (L : Nat) (r : Nat → Value) (K : ASt → Prop) : listP (EV0 R) (callWith (EV0 R) (evT (EV0 R) 60)) ccO ((ccO.drop 2).take 1) ⟨pat [(6, x), (5, .slice L 0 0 0)] r 0 Try.f49.ntmps, ⟨H, [], wr⟩⟩ K = (match appendA Try.prog R H ccT (.slice L 0 0 0) x with
    | some q => resP false q ((ccO.drop 2).headD ⟨none, .assign (.tmp 0), 0, "", #[], none⟩) ⟨pat [(6, x), (5, .slice L 0 0 0)] r 0 Try.f49.ntmps, ⟨H, [], wr⟩⟩ K
    | none => False) := by kernel_rfl
theorem cce {R : Rws} (H : Mem) (wr : Nat → Bool) (x : AV) (L m l : Nat) (G : Nat → List AV) (r : Nat → Value) : Is ((fun st : ASt => chK [(7, .gsl .top l 0 m)] Try.f49.ntmps (H ++ [.row m 2 G ccE none]) [] .normal st) ⟨putA (pat [(6, x), (5, .slice L 0 0 0)] r 0 Try.f49.ntmps) (some 7) (.gsl .top l 0 m), ⟨H ++ [.row m 2 G ccE none], [], wr⟩⟩) := ev_eq [] (chR [(7, .gsl .top l 0 m)] Try.f49.ntmps (H ++ [.row m 2 G ccE none]) []) (by kernel_rfl) trivial
theorem ccf {R : Rws} (H : Mem) (wr : Nat → Bool) (x : AV) : ∀ r, Is (listP (EV0 R) (callWith (EV0 R) (evT (EV0 R) 60)) ccO (((ccO.drop 2).drop 1).take 1) ⟨pat [(7, x)] r 0 Try.f49.ntmps, ⟨H, [], wr⟩⟩ (chK [(2, x)] Try.f49.ntmps H [] .normal)) := fun r => ev_eq [] (chR [(2, x)] Try.f49.ntmps H []) (by kernel_rfl) trivial
theorem ccz {R : Rws} (H : Mem) (wr : Nat → Bool) (x : AV) : ∀ r, Is (evT (EV0 R) 60 (.code (sR ccB)) ⟨pat [(2, x)] r 0 Try.f49.ntmps, ⟨H, [], wr⟩⟩ (chE .ret [(2, x)] Try.f49.ntmps H [])) := fun r => ev_eq [] (chR [(2, x)] Try.f49.ntmps H []) (by kernel_rfl) trivial
theorem ccany {R : Rws} (hR : RwOK R) (args : List AV) (H : Mem) (wr : Nat → Bool) (v : AV) (H' : Mem) (cs : List Bool) (hF : cloneF 2 ccE R args H wr = some (v, H', cs)) (hcs : ∀ c ∈ cs, c = true) (Hr : List RBlk) (w : World) (Args : List Value) (ha : RelL R (nums Hr) args Args) (hB : RelB R (nums Hr) H Hr) (hA : Apart H Hr) (hO : OwnK R H Hr w) :
    Calls Try.prog 49 Args.toArray w fun e w' => ∃ V Hr', e = .returned V ∧ Rel R (nums Hr') v V ∧ RelB R (nums Hr') H' Hr' ∧ Apart H' Hr' ∧ OwnK R H' Hr' w' ∧ Stp wr Hr w Hr' w' := by
  obtain ⟨x, m, G, cs', rfl, hn, rfl, rfl, rfl⟩ := cloneF_inv hF
  cases ha with | cons hx hnil =>
  cases hnil
  have hE := hEV0 hR
  obtain ⟨A, c, rfl, hA0⟩ := newsA_val hR hn hx
  cases A with
  | none =>
    obtain rfl := hA0 rfl
    refine (ev_calls_rd hE 60 (ccn c).is rfl (.cons .raw .nil) w (hO.2.sub (by simp))).mono fun e w' ⟨he, hb⟩ => ?_
    obtain ⟨Hr', h1, h2, h3, h4, h5⟩ := clone_nil (s := 2) (G := G) (e := ccE) (wr := wr) (by decide) rfl hB hA hO hb
    exact ⟨_, Hr', he, h1, h2, h3, h4, h5⟩
  | some a =>
    refine ev_enterH (E := (EV0 R)) (fn := Try.f49) (c := (Try.f49.body.getD .skip)) Try.func49 (by kernel_rfl) (args := [.raw (.slice (some a) m c)]) (show 1 ≤ Try.f49.ntmps by decide) (.cons .raw .nil) hB hA hO (ds := []) (wr := wr) fun a0 hP hBn => ?_
    refine ev_seqs hE 60 2 (cca H wr a m c) hP hBn fun a1 Hr1 w1 hP1 hB1 hS1 => ?_
    refine wp_parts (c := ccB) (by kernel_rfl) (wp_reg (by kernel_rfl) ?_)
    refine ev_ops hE 60 1 (ops := ccO) (l := ccO) (ccb H wr _) hP1 hB1 fun a2 Hr2 w2 hP2 hB2 hS2 => ?_
    have hS12 := hS1.trans hS2
    obtain ⟨σ, hσ, _⟩ := hS12.ext
    have hx2 : Rel R (nums Hr2) x (.slice (some a) m c) := by rw [hσ]; exact hx.grow σ
    have hP3 := PatSt.swap hP2 hx2
    refine ev_ops hE 60 1 (ops := ccO) (l := ccO.drop 1) (ccc (H ++ [AIt.cells [] ccE]) wr x H.length) hP3 hB2 fun a4 Hr4 w4 hP4 hB4 hS4 => ?_
    have hap : ∀ r, Is (listP (EV0 R) (callWith (EV0 R) (evT (EV0 R) 60)) ccO ((ccO.drop 2).take 1) ⟨pat [(6, x), (5, .slice H.length 0 0 0)] r 0 Try.f49.ntmps, ⟨(H ++ [AIt.cells [] ccE]), [], wr⟩⟩ (chK [(7, .gsl .top (H.length + 1) 0 m)] Try.f49.ntmps (H ++ [.cells [] ccE] ++ [.row m 2 G ccE none]) [] .normal)) := fun r => by
      constructor
      rw [ccd, ccap, newsA_grow hn]
      simp only [resP, cond_false]
      refine allT_of hcs ?_
      have hl : (H ++ [AIt.cells [] ccE]).length = H.length + 1 := by simp
      have := (cce (R := R) (H ++ [AIt.cells [] ccE]) wr x H.length m (H.length + 1) G r).is
      rw [← hl] at this ⊢
      exact this
    refine ev_ops hE 60 1 (ops := ccO) (l := ccO.drop 2) hap hP4 hB4 fun a5 Hr5 w5 hP5 hB5 hS5 => ?_
    refine ev_ops hE 60 1 (ops := ccO) (l := (ccO.drop 2).drop 1) (ccf (H ++ [.cells [] ccE] ++ [.row m 2 G ccE none]) wr _) hP5 hB5 fun a6 Hr6 w6 hP6 hB6 hS6 => ?_
    refine wpList_nil ?_
    refine ev_codeE hE 60 .ret (ccz (H ++ [.cells [] ccE] ++ [.row m 2 G ccE none]) wr _) hP6 hB6 fun a7 Hr7 w7 hP7 hB7 hS7 => ?_
    have hS := (((hS12.trans hS4).trans hS5).trans hS6).trans hS7
    obtain ⟨rr, vv, _, _, hBl, hAp⟩ := id hP7
    obtain ⟨g1, g2, g3⟩ := clone_end hBl hAp hB7.own.1
    refine ev_endH hE (r := .gsl .top (H.length + 1) 0 m) (fun rs => by kernel_rfl) hP7 hB7 (fun V hv => ⟨V, Hr7, rfl, hv, g1, g2, ⟨g3, hB7.own.2⟩, hS⟩) (.inl rfl)
end Go.Proofs.Ytcfomhnfhalmaaa
end

section
set_option linter.unusedVariables false
set_option linter.unusedSimpArgs false
namespace Go.Proofs.Ytcfomhnfhalmaaa
open Go.RowKit

def okI (n : Int) : Bool := decide (0 ≤ n) && decide (n ≤ 16777216)
theorem okI_yes {n : Int} (h0 : 0 ≤ n) (h1 : n ≤ 16777216) : okI n = true := by simp [okI, h0, h1]
theorem okI_no {n : Int} (h : ¬ (0 ≤ n ∧ n ≤ 16777216)) : okI n = false := by
  unfold okI
  rw [Bool.and_eq_false_iff]
  by_cases h0 : 0 ≤ n
  · exact .inr (decide_eq_false fun h1 => h ⟨h0, h1⟩)
  · exact .inl (decide_eq_false h0)
theorem right1_any (n : Int) (w : World) : Calls Try.prog 104 #[.int .i64 n] w fun e w' => e = .returned (.bool (!okI n)) ∧ w = w' := by
  by_cases h : n < 0
  · have d : decide (n < 0) = true := by simp [h]
    rw [okI_no (by omega)]
    go_enter Try.func104, Try.ntmps104
    go_wp2_with fail
    go_ret
    exact ⟨rfl, rfl⟩
  · have d : decide (n < 0) = false := by simp; omega
    by_cases h2 : 16777216 < n
    · have d2 : decide (16777216 < n) = true := by simp [h2]
      rw [okI_no (by omega)]
      go_enter Try.func104, Try.ntmps104
      go_wp2_with fail
      go_ret
      exact ⟨rfl, rfl⟩
    · have d2 : decide (16777216 < n) = false := by simp; omega
      rw [okI_yes (by omega) (by omega)]
      go_enter Try.func104, Try.ntmps104
      go_wp2_with fail
      go_ret
      exact ⟨rfl, rfl⟩
theorem index_any (b : Nat) (n : Int) (w : World) (hc : w.cell? ⟨b, 0, none⟩ = some (.int .i64 n)) :
    Calls Try.prog 107 #[.slice (some ⟨b, 0, none⟩) 1 1, .func (.func 104) #[] #[]] w fun e w' => e = .returned (.int .i64 (if okI n then -1 else 0)) ∧ w = w' := by
  rcases hok : okI n with _ | _
  · have HC := right1_any n
    rw [hok] at HC
    go_enter Try.func107, Try.ntmps107
    go_wp2_with fail
    go_loopw [8] (fun i wr => i = .int .i64 0 ∧ w = wr) (fun i _ => 1 - (intOf i).toNat)
    case atStart => first | exact ⟨rfl, rfl⟩ | simp
    case round =>
      obtain ⟨rfl, rfl⟩ := hrel
      go_wp2_with fail
      refine (HC _).mono ?_
      rintro e w' ⟨rfl, rfl⟩
      go_wp2_with fail
      go_ret
      exact ⟨rfl, by first | rfl | trivial⟩
  · have HC := right1_any n
    rw [hok] at HC
    go_enter Try.func107, Try.ntmps107
    go_wp2_with fail
    go_loopw [8] (fun i wr => ∃ k : Nat, k ≤ 1 ∧ i = .int .i64 k ∧ w = wr) (fun i _ => 1 - (intOf i).toNat)
    case atStart => exact ⟨0, by omega, rfl, rfl⟩
    case round =>
      obtain ⟨k, hk, rfl, rfl⟩ := hrel
      rcases (by omega : k = 0 ∨ k = 1) with rfl | rfl
      · go_wp2_with fail
        refine (HC _).mono ?_
        rintro e w' ⟨rfl, rfl⟩
        go_wp2_with fail
        exact ⟨⟨1, by omega, rfl, by first | rfl | trivial⟩, by simp [intOf]⟩
      · go_wp2_with fail
        go_ret
        exact ⟨rfl, rfl⟩
theorem contains_any (b : Nat) (n : Int) (w : World) (hc : w.cell? ⟨b, 0, none⟩ = some (.int .i64 n)) :
    Calls Try.prog 103 #[.slice (some ⟨b, 0, none⟩) 1 1, .func (.func 104) #[] #[]] w fun e w' => e = .returned (.bool (!okI n)) ∧ w = w' := by
  have HC := index_any b n w hc
  clear hc
  rcases hok : okI n with _ | _
  all_goals
    rw [hok] at HC
    go_enter Try.func103, Try.ntmps103
    go_wp2_with fail
    refine HC.mono ?_
    rintro e w' ⟨rfl, rfl⟩
    go_wp2_with fail
    go_ret
    exact ⟨rfl, rfl⟩
theorem right_any (b : Nat) (n : Int) (w : World) (hc : w.cell? ⟨b, 0, none⟩ = some (.int .i64 n)) :
    Calls Try.prog 96 #[.slice (some ⟨b, 0, none⟩) 1 1] w fun e w' => e = .returned (.bool (okI n)) ∧ w = w' := by
  have HC := contains_any b n w hc
  clear hc
  go_enter Try.func96, Try.ntmps96
  go_wp2_with fail
  refine HC.mono ?_
  rintro e w' ⟨rfl, rfl⟩
  go_wp2_with fail
  go_ret
  exact ⟨by simp, rfl⟩
def wordsI (n : Int) : Int := (n + 31) / 32
theorem wordsI_nn {n : Int} (h0 : 0 ≤ n) : 0 ≤ wordsI n := by unfold wordsI; omega
theorem wordsI_le {n : Int} (h1 : n ≤ 16777216) : wordsI n ≤ 16777216 := by unfold wordsI; omega
theorem words_any (n : Int) (w : World) (h0 : 0 ≤ n) (h1 : n ≤ 16777216) : Calls Try.prog 98 #[.int .i64 n] w fun e w' => e = .returned (.int .i64 (wordsI n)) ∧ w = w' := by
  go_enter Try.func98, Try.ntmps98
  go_wp2_with fail
  go_ret
  refine ⟨?_, rfl⟩
  simp only [wordsI]
  go_num
def costI (n : Int) : Int := 3 * n + n * n / 512
theorem sq_le {n : Int} (h0 : 0 ≤ n) (h1 : n ≤ 16777216) : 0 ≤ n * n ∧ n * n ≤ 281474976710656 := by
  refine ⟨Int.mul_nonneg h0 h0, ?_⟩
  have := Int.mul_le_mul h1 h1 h0 (by omega)
  omega
theorem costI_bd {n : Int} (h0 : 0 ≤ n) (h1 : n ≤ 16777216) : 0 ≤ costI n ∧ costI n ≤ 600000000000 := by
  have := sq_le h0 h1
  unfold costI; omega
theorem cost_any (n : Int) (w : World) (h0 : 0 ≤ n) (h1 : n ≤ 16777216) : Calls Try.prog 105 #[.int .i64 n] w fun e w' => e = .returned (.int .u64 (costI n)) ∧ w = w' := by
  obtain ⟨h2, h3⟩ := sq_le h0 h1
  have hw1 : IntKind.u64.wrap n = n := IntWalk.u64_in _ (by omega)
  have hw2 : IntKind.u64.wrap (n * n) = n * n := IntWalk.u64_in _ (by omega)
  have hw3 : IntKind.u64.wrap (3 * n) = 3 * n := IntWalk.u64_in _ (by omega)
  go_enter Try.func105, Try.ntmps105
  go_wp2_with fail
  go_ret
  exact ⟨rfl, rfl⟩
/-- A memory made greater. -/
theorem to_case (b : Nat) (s n m : Int) (w : World) (hc : w.cell? ⟨b, 0, none⟩ = some (.int .i64 s)) (hf : w.frozen? ⟨b, 0, none⟩ = false) (hs0 : 0 ≤ s) (hs1 : s ≤ 16777216) (h0 : 0 ≤ n) (h1 : n ≤ 16777216) (hm : (n ≤ s ∧ m = s) ∨ (s < n ∧ m = n)) :
    Calls Try.prog 97 #[.pointer (some ⟨b, 0, none⟩), .int .i64 n] w fun e w' => e = .returned (.int .u64 (IntKind.u64.wrap (costI m - costI s))) ∧ w' = w.setCell ⟨b, 0, none⟩ (.int .i64 m) := by
  have hlt := World.block_lt_of_cell? w ⟨b, 0, none⟩ hc
  have hc' : (w.setCell ⟨b, 0, none⟩ (.int .i64 m)).cell? ⟨b, 0, none⟩ = some (.int .i64 m) := World.cell?_setCell_same' _ _ _ (by rw [hc]; rfl)
  have HC := fun W => cost_any m W (by omega) (by omega)
  have HS := fun W => cost_any s W hs0 hs1
  rcases hm with ⟨h, rfl⟩ | ⟨h, rfl⟩
  all_goals
    go_enter Try.func97, Try.ntmps97
    go_wp2_with fail
    refine (HS _).mono ?_
    rintro e w' ⟨rfl, rfl⟩
    go_wp2_with fail
    refine (HC _).mono ?_
    rintro e w' ⟨rfl, rfl⟩
    go_wp2_with fail
    go_ret
    exact ⟨by first | rfl | (rw [Int.sub_self]; rfl), rfl⟩
theorem to_any (b : Nat) (s n : Int) (t : TypeId) (w : World) (hB : Blk w b #[.int .i64 s] t) (hs0 : 0 ≤ s) (hs1 : s ≤ 16777216) (h0 : 0 ≤ n) (h1 : n ≤ 16777216) :
    Calls Try.prog 97 #[.pointer (some ⟨b, 0, none⟩), .int .i64 n] w fun e w' => e = .returned (.int .u64 (IntKind.u64.wrap (costI (max s n) - costI s))) ∧ w' = w.setCell ⟨b, 0, none⟩ (.int .i64 (max s n)) :=
  to_case b s n (max s n) w (hB.cell 0) (hB.free 0) hs0 hs1 h0 h1 (by omega)
/-! ### The document's. -/
end Go.Proofs.Ytcfomhnfhalmaaa
end

section
set_option linter.unusedVariables false
set_option linter.unusedSimpArgs false
namespace Go.Proofs.Ytcfomhnfhalmaaa
open Go.RowKit

theorem run_add (x y c : Int) (hx : 0 ≤ x) (hy : 0 ≤ y) (hc0 : 0 ≤ c) (hc : c ≤ 1) (w : World) :
    (callFunc 102 #[.int .u64 x, .int .u64 y, .int .u64 c]).run Try.prog w = .ok (.value (.tuple #[.int .u64 (aLo x y c), .int .u64 (aHi x y c)])) w := by
  rw [run_callFunc_extern (P := Try.prog) Try.func102 (by kernel_rfl) (by kernel_rfl) (by kernel_rfl) (e := add64Entry) (by kernel_rfl)]
  rw [run_add64 x y c hx hy hc0 hc, aLo_eq, aHi_eq]
  rfl

/-- What the sum's place holds behind k rounds. -/
def addRow (x y : BitVec 256) : Nat → Array Value
  | 0 => #[.int .u64 0, .int .u64 0, .int .u64 0, .int .u64 0]
  | 1 => #[.int .u64 (aLo (L x 0) (L y 0) 0), .int .u64 0, .int .u64 0, .int .u64 0]
  | 2 => #[.int .u64 (aLo (L x 0) (L y 0) 0), .int .u64 (aLo (L x 1) (L y 1) (c1 x y)), .int .u64 0, .int .u64 0]
  | 3 => #[.int .u64 (aLo (L x 0) (L y 0) 0), .int .u64 (aLo (L x 1) (L y 1) (c1 x y)), .int .u64 (aLo (L x 2) (L y 2) (c2 x y)), .int .u64 0]
  | _ => #[.int .u64 (aLo (L x 0) (L y 0) 0), .int .u64 (aLo (L x 1) (L y 1) (c1 x y)), .int .u64 (aLo (L x 2) (L y 2) (c2 x y)), .int .u64 (aLo (L x 3) (L y 3) (cc3 x y))]
def addC (x y : BitVec 256) : Nat → Int
  | 0 => 0
  | 1 => c1 x y
  | 2 => c2 x y
  | 3 => cc3 x y
  | _ => aHi (L x 3) (L y 3) (cc3 x y)

set_option maxHeartbeats 1000000 in
theorem fold_add (x y : BitVec 256) (w : World) :
    Calls Try.prog 101 #[W x, W y, .func (.func 102) #[] #[]] w fun e w' => e = .returned (W (x + y)) ∧ Below w.heap.size w w' := by
  have hadd := run_add
  have hsd := setCell_drewN
  have x0 := L_lo x 0; have x1 := L_lo x 1; have x2 := L_lo x 2; have x3 := L_lo x 3
  have y0 := L_lo y 0; have y1 := L_lo y 1; have y2 := L_lo y 2; have y3 := L_lo y 3
  have k1 := (c1_bd x y).1; have k1' := (c1_bd x y).2
  have k2 := (c2_bd x y).1; have k2' := (c2_bd x y).2
  have k3 := (c3_bd x y).1; have k3' := (c3_bd x y).2
  go_enter Try.func101, Try.ntmps101
  go_wp2_with fail
  go_loopw [7, 9] (fun c i wr => ∃ k nd : Nat, k ≤ 4 ∧ i = .int .i64 k ∧ c = .int .u64 (addC x y k) ∧ wr = (((w.alloc (.cells #[.int .u64 (L x 0), .int .u64 (L x 1), .int .u64 (L x 2), .int .u64 (L x 3)] 143)).alloc (.cells #[.int .u64 (L y 0), .int .u64 (L y 1), .int .u64 (L y 2), .int .u64 (L y 3)] 32)).alloc (.cells (addRow x y k) 32)).drewN nd)
    (fun _ i _ => 4 - (intOf i).toNat)
  case atStart => exact ⟨0, 0, by omega, rfl, rfl, rfl⟩
  case round =>
    obtain ⟨k, nd, hk, rfl, rfl, rfl⟩ := hrel
    rcases (by omega : k = 4 ∨ k = 0 ∨ k = 1 ∨ k = 2 ∨ k = 3) with rfl | rfl | rfl | rfl | rfl
    · simp only [addRow, addC]
      go_wp2_with fail
      go_returns
      obtain ⟨q0, q1, q2, q3⟩ := add_parts x y
      refine ⟨by simp only [q0, q1, q2, q3], below_drewN ?_ _⟩
      go_grown
    all_goals
      simp only [addRow, addC]
      go_wp2_with fail
      go_region_with fail
      all_goals go_wp2_with fail
      all_goals go_roundw
    all_goals first | exact ⟨1, nd + 1, by omega, rfl, rfl, rfl⟩ | exact ⟨2, nd + 1, by omega, rfl, rfl, rfl⟩ | exact ⟨3, nd + 1, by omega, rfl, rfl, rfl⟩ | exact ⟨4, nd + 1, by omega, rfl, rfl, rfl⟩ | (simp [intOf]; done)
end Go.Proofs.Ytcfomhnfhalmaaa
end

section
set_option linter.unusedVariables false
set_option linter.unusedSimpArgs false
namespace Go.Proofs.Ytcfomhnfhalmaaa
open Go.RowKit

theorem eqWord (a b c d a' b' c' d' : Int) (k : Nat) (w : World) : (Op.equalIn (k + 2) 32 (.agg #[.int .u64 a, .int .u64 b, .int .u64 c, .int .u64 d]) (.agg #[.int .u64 a', .int .u64 b', .int .u64 c', .int .u64 d'])).run Try.prog w =
    .ok (decide (a = a' ∧ b = b' ∧ c = c' ∧ d = d')) w := by
  rw [Op.equalIn]
  simp only [Sem.run_bind, run_underlying (show Try.prog.underlying 32 = some (.array 4 30) by kernel_rfl), Result.andThen_ok]
  simp only [Std.Legacy.Range.forIn_eq_forIn_range', Std.Legacy.Range.size, Nat.sub_zero, Nat.add_sub_cancel, Nat.div_one, List.range'_succ, List.range'_zero, List.forIn_cons, List.forIn_nil]
  go_simp
  by_cases h1 : a = a' <;> by_cases h2 : b = b' <;> by_cases h3 : c = c' <;> by_cases h4 : d = d' <;> simp [h1, h2, h3, h4]
theorem eqWord0 (a b c d a' b' c' d' : Int) (w : World) : (Op.equalIn 10000 32 (.agg #[.int .u64 a, .int .u64 b, .int .u64 c, .int .u64 d]) (.agg #[.int .u64 a', .int .u64 b', .int .u64 c', .int .u64 d'])).run Try.prog w =
    .ok (decide (a = a' ∧ b = b' ∧ c = c' ∧ d = d')) w := eqWord a b c d a' b' c' d' 9998 w
/-- Below 2^64. -/
def smallB (x : BitVec 256) : Bool := decide (L x 1 = 0) && (decide (L x 2 = 0) && decide (L x 3 = 0))
theorem small_any (x : BitVec 256) (w : World) : Calls Try.prog 94 #[W x] w fun e w' => e = .returned (.tuple #[.int .u64 (if smallB x then L x 0 else 0), .bool (smallB x)]) ∧ Below w.heap.size w w' := by
  have hq := eqWord0 (L x 0) (L x 1) (L x 2) (L x 3) (L x 0) 0 0 0
  rcases hs : smallB x with _ | _
  · have hd : decide (L x 0 = L x 0 ∧ L x 1 = 0 ∧ L x 2 = 0 ∧ L x 3 = 0) = false := by
      unfold smallB at hs; simpa using hs
    rw [hd] at hq
    go_enter Try.func94, Try.ntmps94
    go_wp2_with fail
    go_ret2
    exact ⟨rfl, by go_grown⟩
  · have hd : decide (L x 0 = L x 0 ∧ L x 1 = 0 ∧ L x 2 = 0 ∧ L x 3 = 0) = true := by
      unfold smallB at hs; simpa using hs
    rw [hd] at hq
    go_enter Try.func94, Try.ntmps94
    go_wp2_with fail
    go_ret2
    exact ⟨rfl, by go_grown⟩
set_option maxHeartbeats 1000000 in
theorem add1_any (b : Nat) (s x : BitVec 256) (w : World) (hB : Blk w b #[.int .u64 (L s 0), .int .u64 (L s 1), .int .u64 (L s 2), .int .u64 (L s 3)] 32) :
    Calls Try.prog 100 #[W x, .pointer (some ⟨b, 0, none⟩)] w fun e w' => (∃ v, e = .returned v) ∧ Blk w' b #[.int .u64 (L (s + x) 0), .int .u64 (L (s + x) 1), .int .u64 (L (s + x) 2), .int .u64 (L (s + x) 3)] 32 ∧ Below b w w' := by
  have h1 : ∀ o : Obj, Blk (w.alloc o) b #[.int .u64 (L s 0), .int .u64 (L s 1), .int .u64 (L s 2), .int .u64 (L s 3)] 32 := fun o => hB.grow (World.below_alloc w o)
  have c1 := fun o => (h1 o).cell
  have l1 := hB.lt
  have l2 := Nat.lt_succ_of_lt l1
  have hf := fold_add s x
  have hfl : ∀ V : World, (Instr.field 145 (.agg #[.int .u64 (L s 0), .int .u64 (L s 1), .int .u64 (L s 2), .int .u64 (L s 3)]) 0).run Try.prog V = .ok (.agg #[.int .u64 (L s 0), .int .u64 (L s 1), .int .u64 (L s 2), .int .u64 (L s 3)]) V := fun _ => by kernel_rfl
  go_enter Try.func100, Try.ntmps100
  go_wp2_with fail
  refine (hf _).mono ?_
  rintro e w2 ⟨rfl, hb⟩
  have hB2 : Blk w2 b #[.int .u64 (L s 0), .int .u64 (L s 1), .int .u64 (L s 2), .int .u64 (L s 3)] 32 := (h1 _).grow hb
  have c2 := hB2.cell
  have f2 := hB2.free
  have l3 := hB2.lt
  have hb2 : Below b w w2 := ((World.below_alloc w _).mono (Nat.le_of_lt l1)).trans (hb.mono (by simp; omega))
  have hend := ((((hB2.set 0 (.int .u64 (L (s + x) 0))).set 1 (.int .u64 (L (s + x) 1))).set 2 (.int .u64 (L (s + x) 2))).set 3 (.int .u64 (L (s + x) 3)))
  clear h1 c1 hf hb hB
  go_wp2_with fail
  go_end0
  refine ⟨⟨_, rfl⟩, ?_, ?_⟩
  · exact hend
  · refine hb2.trans ?_
    exact ((((Below.refl b w2).setCell (p := ⟨b, 0, none⟩) (Nat.le_refl _) _).setCell (p := ⟨b, 1, none⟩) (Nat.le_refl _) _).setCell (p := ⟨b, 2, none⟩) (Nat.le_refl _) _).setCell (p := ⟨b, 3, none⟩) (Nat.le_refl _) _
def sumK (x y : BitVec 256) (k : Nat) : BitVec 256 := if k = 0 then 0 else if k = 1 then 0 + x else 0 + x + y
set_option maxHeartbeats 1000000 in
theorem add_any (x y : BitVec 256) (sb : Nat) (t : TypeId) (w : World) (hs : Blk w sb #[.int .u64 (L x 0), .int .u64 (L x 1), .int .u64 (L x 2), .int .u64 (L x 3), .int .u64 (L y 0), .int .u64 (L y 1), .int .u64 (L y 2), .int .u64 (L y 3)] t) :
    Calls Try.prog 95 #[.slice (some ⟨sb, 0, none⟩) 2 2] w fun e w' => e = .returned (W (x + y)) ∧ Below w.heap.size w w' := by
  have hz : Blk (w.alloc (.cells #[.int .u64 0, .int .u64 0, .int .u64 0, .int .u64 0] 32)) w.heap.size #[.int .u64 (L (sumK x y 0) 0), .int .u64 (L (sumK x y 0) 1), .int .u64 (L (sumK x y 0) 2), .int .u64 (L (sumK x y 0) 3)] 32 := by
    have e : ∀ i, L (sumK x y 0) i = 0 := fun i => by rw [L_eq]; simp [sumK]
    rw [e, e, e, e]; exact heap_alloc_new _ _
  have hb0 := World.below_alloc w (.cells #[.int .u64 0, .int .u64 0, .int .u64 0, .int .u64 0] 32)
  have HZ := Lib.hid hz
  clear hz
  go_enter Try.func95, Try.ntmps95
  go_wp2_with fail
  go_loopw [9] (fun i wr => ∃ k : Nat, k ≤ 2 ∧ i = .int .i64 k ∧ Blk wr w.heap.size #[.int .u64 (L (sumK x y k) 0), .int .u64 (L (sumK x y k) 1), .int .u64 (L (sumK x y k) 2), .int .u64 (L (sumK x y k) 3)] 32 ∧ Below w.heap.size w wr) (fun i _ => 2 - (intOf i).toNat)
  case atStart => exact ⟨0, by omega, rfl, HZ.out, hb0⟩
  case round =>
    clear HZ hb0
    obtain ⟨k, hk, rfl, hB, hb⟩ := hrel
    have hsr := hs.grow hb
    have cs := hsr.cell
    have ls := hsr.lt
    have cB := hB.cell
    have fB := hB.free
    have lB := hB.lt
    have hne : sb ≠ w.heap.size := Nat.ne_of_lt hs.lt
    have hA1 : ∀ o : Obj, Blk (wr.alloc o) w.heap.size #[.int .u64 (L (sumK x y k) 0), .int .u64 (L (sumK x y k) 1), .int .u64 (L (sumK x y k) 2), .int .u64 (L (sumK x y k) 3)] 32 := fun o => hB.grow (World.below_alloc wr o)
    have HA := Lib.hid hA1
    clear hA1
    rcases (by omega : k = 2 ∨ k = 0 ∨ k = 1) with rfl | rfl | rfl
    · have e : sumK x y 2 = x + y := by simp [sumK]
      rw [e] at hB cB
      have hE := ((((hB.set 0 (.int .u64 (L (x + y) 0))).set 1 (.int .u64 (L (x + y) 1))).set 2 (.int .u64 (L (x + y) 2))).set 3 (.int .u64 (L (x + y) 3)))
      have cE := hE.cell
      go_wp2_with fail
      refine bodyPost_ret (v := W (x + y)) (by simp [results, Try.results95, go_sem, *]) rfl ?_
      refine ⟨rfl, hb.trans ?_⟩
      exact ((((Below.refl w.heap.size wr).setCell (p := ⟨w.heap.size, 0, none⟩) (Nat.le_refl _) _).setCell (p := ⟨w.heap.size, 1, none⟩) (Nat.le_refl _) _).setCell (p := ⟨w.heap.size, 2, none⟩) (Nat.le_refl _) _).setCell (p := ⟨w.heap.size, 3, none⟩) (Nat.le_refl _) _
    · go_wp2_with fail
      refine (add1_any w.heap.size (sumK x y 0) x _ (HA.out _)).mono ?_
      rintro e w2 ⟨⟨v, rfl⟩, hB2, hb2⟩
      have hbw := (hb.trans ((World.below_alloc wr _).mono (Nat.le_of_lt lB))).trans hb2
      clear hb2 cs ls cB fB lB HA hB hb hsr
      go_wp2_with fail
      exact ⟨⟨1, by omega, rfl, hB2, hbw⟩, by simp [intOf]⟩
    · go_wp2_with fail
      refine (add1_any w.heap.size (sumK x y 1) y _ (HA.out _)).mono ?_
      rintro e w2 ⟨⟨v, rfl⟩, hB2, hb2⟩
      have hbw := (hb.trans ((World.below_alloc wr _).mono (Nat.le_of_lt lB))).trans hb2
      clear hb2 cs ls cB fB lB HA hB hb hsr
      go_wp2_with fail
      exact ⟨⟨2, by omega, rfl, hB2, hbw⟩, by simp [intOf]⟩
end Go.Proofs.Ytcfomhnfhalmaaa
end

section
set_option linter.unusedVariables false
set_option linter.unusedSimpArgs false
namespace Go.Proofs.Ytcfomhnfhalmaaa
open Go.RowKit

theorem wp_scope_fwd {P : Program} {a : Act} {w : World} {Q : Exit → Act → World → Prop} {c rest : Code} (l : Nat) (hf : findLabel c l = some rest) (first : c.wp P (Exit.jump l (fun a w => rest.wp P (Exit.noGoto Q) a w) Q) a w) : (Code.scope c).wp P Q a w :=
  wp_scope_jumps l _ (fun _ _ => 0) hf first (fun a w h => wp_mono h (fun e a w hq => by
    cases e with
    | goto l' => exact hq.elim
    | _ => exact hq))
/-- What the end of bytes is, or that they are too far. -/
def endOk (x y : BitVec 256) : Bool := smallB (x + y) && (smallB x && (decide (L (x + y) 0 ≤ 16777216) && decide (L x 0 < L (x + y) 0)))
def reachN (n : Int) (x y : BitVec 256) : Int := if okI n then (if y = 0 then n else if endOk x y then max n (wordsI (L (x + y) 0)) else 0) else 0
def reachC (n : Int) (x y : BitVec 256) : Int := if okI n then (if y = 0 then 0 else if endOk x y then costI (max n (wordsI (L (x + y) 0))) - costI n else 0) else 0
def reachE (n : Int) (x y : BitVec 256) : Int := if okI n then (if y = 0 then 0 else if endOk x y then 0 else 4) else 2
theorem costI_mono {a b : Int} (h0 : 0 ≤ a) (h : a ≤ b) : costI a ≤ costI b := by
  have := Int.mul_le_mul h h h0 (by omega)
  unfold costI; omega
theorem nought_iff (y : BitVec 256) : (L y 0 = 0 ∧ L y 1 = 0 ∧ L y 2 = 0 ∧ L y 3 = 0) ↔ y = 0 := by
  have e : ∀ i, L (0 : BitVec 256) i = 0 := fun i => by rw [L_eq]; simp
  constructor
  · rintro ⟨h0, h1, h2, h3⟩
    exact L_ext (by rw [h0, e]) (by rw [h1, e]) (by rw [h2, e]) (by rw [h3, e])
  · rintro rfl
    exact ⟨e 0, e 1, e 2, e 3⟩

set_option maxHeartbeats 4000000 in
set_option maxRecDepth 20000 in
theorem reach_bad (n : Int) (x y : BitVec 256) (w : World) (h : okI n = false) :
    Calls Try.prog 81 #[.int .i64 n, W x, W y] w fun e w' => e = .returned (.tuple #[.int .i64 0, .int .u64 0, .int .i64 2]) ∧ Below w.heap.size w w' := by
  have HS1 := fun V : World => small_any (x + y) V
  have HS2 := fun V : World => small_any x V
  have HR := right_any
  have hq := eqWord0 (L y 0) (L y 1) (L y 2) (L y 3) 0 0 0 0
  have HR := fun (b : Nat) (V : World) hc => right_any b n V hc
  have x0 := L_lo x 0
  have s0 := L_lo (x + y) 0
  rw [h] at HR
  generalize (if smallB (x + y) = true then L (x + y) 0 else 0) = E1 at HS1
  generalize smallB (x + y) = S1 at HS1
  generalize (if smallB x = true then L x 0 else 0) = E2 at HS2
  generalize smallB x = S2 at HS2
  go_enter Try.func81, Try.ntmps81
  go_wp2_with fail
  refine wp_scope_fwd 0 rfl ?_
  go_wp2_with fail
  refine (add_any x y _ _ _ (Own.get (Own.new (Own.new (Own.new (Own.new (Own.nil w) (w.heap.size) rfl) (w.heap.size + 1) (by simp)) (w.heap.size + 1 + 1) (by simp)) (w.heap.size + 1 + 1 + 1) (by simp)) 0 rfl)).mono ?_
  rintro e w1 ⟨rfl, hb1⟩
  have O1 := Own.grow' hb1 (Own.new (Own.new (Own.new (Own.new (Own.nil w) (w.heap.size) rfl) (w.heap.size + 1) (by simp)) (w.heap.size + 1 + 1) (by simp)) (w.heap.size + 1 + 1 + 1) (by simp))
  try simp only [List.setIfInBounds_toArray, List.set_cons_zero, List.set_cons_succ] at O1
  have bw1 : Below w.heap.size w w1 := Below.trans (by go_grown) (Below.mono hb1 (by first | omega | (simp; done) | (simp; omega)))
  have zw1 := Below.size hb1
  try simp only [World.size_alloc, World.size_drew, World.size_setCell] at zw1
  have c1x0 := Own.cell O1 0 rfl
  have f1x0 := Own.free O1 0 rfl
  have l1x0 := Own.lt O1 0 rfl
  have l1x0d0 := le_up 0 l1x0
  have l1x0d1 := le_up 1 l1x0
  simp only [upN] at l1x0d0 l1x0d1
  have c1x1 := Own.cell O1 1 rfl
  have f1x1 := Own.free O1 1 rfl
  have l1x1 := Own.lt O1 1 rfl
  have l1x1d0 := le_up 0 l1x1
  have l1x1d1 := le_up 1 l1x1
  simp only [upN] at l1x1d0 l1x1d1
  have c1x2 := Own.cell O1 2 rfl
  have f1x2 := Own.free O1 2 rfl
  have l1x2 := Own.lt O1 2 rfl
  have l1x2d0 := le_up 0 l1x2
  have l1x2d1 := le_up 1 l1x2
  simp only [upN] at l1x2d0 l1x2d1
  have c1x3 := Own.cell O1 3 rfl
  have f1x3 := Own.free O1 3 rfl
  have l1x3 := Own.lt O1 3 rfl
  have l1x3d0 := le_up 0 l1x3
  have l1x3d1 := le_up 1 l1x3
  simp only [upN] at l1x3d0 l1x3d1
  have HO1 := Lib.hid O1
  clear O1 hb1
  go_wp2_with fail
  refine (HS1 _).mono ?_
  rintro e w2 ⟨rfl, hb2⟩
  have O2 := Own.grow' hb2 HO1.out
  try simp only [List.setIfInBounds_toArray, List.set_cons_zero, List.set_cons_succ] at O2
  have bw2 : Below w.heap.size w w2 := Below.trans (by go_grown) (Below.mono hb2 (by first | omega | (simp; done) | (simp; omega)))
  have zw2 := Below.size hb2
  try simp only [World.size_alloc, World.size_drew, World.size_setCell] at zw2
  clear c1x0 f1x0 l1x0 l1x0d0 l1x0d1 c1x1 f1x1 l1x1 l1x1d0 l1x1d1 c1x2 f1x2 l1x2 l1x2d0 l1x2d1 c1x3 f1x3 l1x3 l1x3d0 l1x3d1
  have c2x0 := Own.cell O2 0 rfl
  have f2x0 := Own.free O2 0 rfl
  have l2x0 := Own.lt O2 0 rfl
  have l2x0d0 := le_up 0 l2x0
  have l2x0d1 := le_up 1 l2x0
  simp only [upN] at l2x0d0 l2x0d1
  have c2x1 := Own.cell O2 1 rfl
  have f2x1 := Own.free O2 1 rfl
  have l2x1 := Own.lt O2 1 rfl
  have l2x1d0 := le_up 0 l2x1
  have l2x1d1 := le_up 1 l2x1
  simp only [upN] at l2x1d0 l2x1d1
  have c2x2 := Own.cell O2 2 rfl
  have f2x2 := Own.free O2 2 rfl
  have l2x2 := Own.lt O2 2 rfl
  have l2x2d0 := le_up 0 l2x2
  have l2x2d1 := le_up 1 l2x2
  simp only [upN] at l2x2d0 l2x2d1
  have c2x3 := Own.cell O2 3 rfl
  have f2x3 := Own.free O2 3 rfl
  have l2x3 := Own.lt O2 3 rfl
  have l2x3d0 := le_up 0 l2x3
  have l2x3d1 := le_up 1 l2x3
  simp only [upN] at l2x3d0 l2x3d1
  have HO2 := Lib.hid O2
  clear O2 hb2
  go_wp2_with fail
  refine (HS2 _).mono ?_
  rintro e w3 ⟨rfl, hb3⟩
  have O3 := Own.grow' hb3 HO2.out
  try simp only [List.setIfInBounds_toArray, List.set_cons_zero, List.set_cons_succ] at O3
  have bw3 : Below w.heap.size w w3 := Below.trans (by go_grown) (Below.mono hb3 (by first | omega | (simp; done) | (simp; omega)))
  have zw3 := Below.size hb3
  try simp only [World.size_alloc, World.size_drew, World.size_setCell] at zw3
  clear c2x0 f2x0 l2x0 l2x0d0 l2x0d1 c2x1 f2x1 l2x1 l2x1d0 l2x1d1 c2x2 f2x2 l2x2 l2x2d0 l2x2d1 c2x3 f2x3 l2x3 l2x3d0 l2x3d1
  have c3x0 := Own.cell O3 0 rfl
  have f3x0 := Own.free O3 0 rfl
  have l3x0 := Own.lt O3 0 rfl
  have l3x0d0 := le_up 0 l3x0
  have l3x0d1 := le_up 1 l3x0
  simp only [upN] at l3x0d0 l3x0d1
  have c3x1 := Own.cell O3 1 rfl
  have f3x1 := Own.free O3 1 rfl
  have l3x1 := Own.lt O3 1 rfl
  have l3x1d0 := le_up 0 l3x1
  have l3x1d1 := le_up 1 l3x1
  simp only [upN] at l3x1d0 l3x1d1
  have c3x2 := Own.cell O3 2 rfl
  have f3x2 := Own.free O3 2 rfl
  have l3x2 := Own.lt O3 2 rfl
  have l3x2d0 := le_up 0 l3x2
  have l3x2d1 := le_up 1 l3x2
  simp only [upN] at l3x2d0 l3x2d1
  have c3x3 := Own.cell O3 3 rfl
  have f3x3 := Own.free O3 3 rfl
  have l3x3 := Own.lt O3 3 rfl
  have l3x3d0 := le_up 0 l3x3
  have l3x3d1 := le_up 1 l3x3
  simp only [upN] at l3x3d0 l3x3d1
  have HO3 := Lib.hid O3
  clear O3 hb3
  go_wp2_with fail
  refine (HR _ _ (newc _ _ _ _ rfl)).mono ?_
  rintro e w' ⟨rfl, rfl⟩
  go_wp2_with fail
  all_goals (first | (go_step3; refine ⟨rfl, ?_⟩) | skip)
  go_wp2_with fail
  all_goals (try rw [Exit.noGoto_ret])
  go_ret3
  exact ⟨rfl, by go_grown⟩

set_option maxHeartbeats 4000000 in
set_option maxRecDepth 20000 in
theorem reach_nought (n : Int) (x y : BitVec 256) (w : World) (h : okI n = true) (hy : (L y 0 = 0 ∧ L y 1 = 0 ∧ L y 2 = 0 ∧ L y 3 = 0)) :
    Calls Try.prog 81 #[.int .i64 n, W x, W y] w fun e w' => e = .returned (.tuple #[.int .i64 n, .int .u64 0, .int .i64 0]) ∧ Below w.heap.size w w' := by
  have HS1 := fun V : World => small_any (x + y) V
  have HS2 := fun V : World => small_any x V
  have HR := right_any
  have hq := eqWord0 (L y 0) (L y 1) (L y 2) (L y 3) 0 0 0 0
  have HR := fun (b : Nat) (V : World) hc => right_any b n V hc
  have x0 := L_lo x 0
  have s0 := L_lo (x + y) 0
  have hn : 0 ≤ n ∧ n ≤ 16777216 := by simp only [okI, Bool.and_eq_true, decide_eq_true_eq] at h; exact h
  rw [h] at HR
  rw [decide_eq_true hy] at hq
  clear hy
  generalize (if smallB (x + y) = true then L (x + y) 0 else 0) = E1 at HS1
  generalize smallB (x + y) = S1 at HS1
  generalize (if smallB x = true then L x 0 else 0) = E2 at HS2
  generalize smallB x = S2 at HS2
  go_enter Try.func81, Try.ntmps81
  go_wp2_with fail
  go_step3
  go_wp2_with fail
  refine (add_any x y _ _ _ (Own.get (Own.new (Own.new (Own.new (Own.new (Own.nil w) (w.heap.size) rfl) (w.heap.size + 1) (by simp)) (w.heap.size + 1 + 1) (by simp)) (w.heap.size + 1 + 1 + 1) (by simp)) 0 rfl)).mono ?_
  rintro e w1 ⟨rfl, hb1⟩
  have O1 := Own.grow' hb1 (Own.new (Own.new (Own.new (Own.new (Own.nil w) (w.heap.size) rfl) (w.heap.size + 1) (by simp)) (w.heap.size + 1 + 1) (by simp)) (w.heap.size + 1 + 1 + 1) (by simp))
  try simp only [List.setIfInBounds_toArray, List.set_cons_zero, List.set_cons_succ] at O1
  have bw1 : Below w.heap.size w w1 := Below.trans (by go_grown) (Below.mono hb1 (by first | omega | (simp; done) | (simp; omega)))
  have zw1 := Below.size hb1
  try simp only [World.size_alloc, World.size_drew, World.size_setCell] at zw1
  have c1x0 := Own.cell O1 0 rfl
  have f1x0 := Own.free O1 0 rfl
  have l1x0 := Own.lt O1 0 rfl
  have l1x0d0 := le_up 0 l1x0
  have l1x0d1 := le_up 1 l1x0
  simp only [upN] at l1x0d0 l1x0d1
  have c1x1 := Own.cell O1 1 rfl
  have f1x1 := Own.free O1 1 rfl
  have l1x1 := Own.lt O1 1 rfl
  have l1x1d0 := le_up 0 l1x1
  have l1x1d1 := le_up 1 l1x1
  simp only [upN] at l1x1d0 l1x1d1
  have c1x2 := Own.cell O1 2 rfl
  have f1x2 := Own.free O1 2 rfl
  have l1x2 := Own.lt O1 2 rfl
  have l1x2d0 := le_up 0 l1x2
  have l1x2d1 := le_up 1 l1x2
  simp only [upN] at l1x2d0 l1x2d1
  have c1x3 := Own.cell O1 3 rfl
  have f1x3 := Own.free O1 3 rfl
  have l1x3 := Own.lt O1 3 rfl
  have l1x3d0 := le_up 0 l1x3
  have l1x3d1 := le_up 1 l1x3
  simp only [upN] at l1x3d0 l1x3d1
  have HO1 := Lib.hid O1
  clear O1 hb1
  go_wp2_with fail
  refine (HS1 _).mono ?_
  rintro e w2 ⟨rfl, hb2⟩
  have O2 := Own.grow' hb2 HO1.out
  try simp only [List.setIfInBounds_toArray, List.set_cons_zero, List.set_cons_succ] at O2
  have bw2 : Below w.heap.size w w2 := Below.trans (by go_grown) (Below.mono hb2 (by first | omega | (simp; done) | (simp; omega)))
  have zw2 := Below.size hb2
  try simp only [World.size_alloc, World.size_drew, World.size_setCell] at zw2
  clear c1x0 f1x0 l1x0 l1x0d0 l1x0d1 c1x1 f1x1 l1x1 l1x1d0 l1x1d1 c1x2 f1x2 l1x2 l1x2d0 l1x2d1 c1x3 f1x3 l1x3 l1x3d0 l1x3d1
  have c2x0 := Own.cell O2 0 rfl
  have f2x0 := Own.free O2 0 rfl
  have l2x0 := Own.lt O2 0 rfl
  have l2x0d0 := le_up 0 l2x0
  have l2x0d1 := le_up 1 l2x0
  simp only [upN] at l2x0d0 l2x0d1
  have c2x1 := Own.cell O2 1 rfl
  have f2x1 := Own.free O2 1 rfl
  have l2x1 := Own.lt O2 1 rfl
  have l2x1d0 := le_up 0 l2x1
  have l2x1d1 := le_up 1 l2x1
  simp only [upN] at l2x1d0 l2x1d1
  have c2x2 := Own.cell O2 2 rfl
  have f2x2 := Own.free O2 2 rfl
  have l2x2 := Own.lt O2 2 rfl
  have l2x2d0 := le_up 0 l2x2
  have l2x2d1 := le_up 1 l2x2
  simp only [upN] at l2x2d0 l2x2d1
  have c2x3 := Own.cell O2 3 rfl
  have f2x3 := Own.free O2 3 rfl
  have l2x3 := Own.lt O2 3 rfl
  have l2x3d0 := le_up 0 l2x3
  have l2x3d1 := le_up 1 l2x3
  simp only [upN] at l2x3d0 l2x3d1
  have HO2 := Lib.hid O2
  clear O2 hb2
  go_wp2_with fail
  refine (HS2 _).mono ?_
  rintro e w3 ⟨rfl, hb3⟩
  have O3 := Own.grow' hb3 HO2.out
  try simp only [List.setIfInBounds_toArray, List.set_cons_zero, List.set_cons_succ] at O3
  have bw3 : Below w.heap.size w w3 := Below.trans (by go_grown) (Below.mono hb3 (by first | omega | (simp; done) | (simp; omega)))
  have zw3 := Below.size hb3
  try simp only [World.size_alloc, World.size_drew, World.size_setCell] at zw3
  clear c2x0 f2x0 l2x0 l2x0d0 l2x0d1 c2x1 f2x1 l2x1 l2x1d0 l2x1d1 c2x2 f2x2 l2x2 l2x2d0 l2x2d1 c2x3 f2x3 l2x3 l2x3d0 l2x3d1
  have c3x0 := Own.cell O3 0 rfl
  have f3x0 := Own.free O3 0 rfl
  have l3x0 := Own.lt O3 0 rfl
  have l3x0d0 := le_up 0 l3x0
  have l3x0d1 := le_up 1 l3x0
  simp only [upN] at l3x0d0 l3x0d1
  have c3x1 := Own.cell O3 1 rfl
  have f3x1 := Own.free O3 1 rfl
  have l3x1 := Own.lt O3 1 rfl
  have l3x1d0 := le_up 0 l3x1
  have l3x1d1 := le_up 1 l3x1
  simp only [upN] at l3x1d0 l3x1d1
  have c3x2 := Own.cell O3 2 rfl
  have f3x2 := Own.free O3 2 rfl
  have l3x2 := Own.lt O3 2 rfl
  have l3x2d0 := le_up 0 l3x2
  have l3x2d1 := le_up 1 l3x2
  simp only [upN] at l3x2d0 l3x2d1
  have c3x3 := Own.cell O3 3 rfl
  have f3x3 := Own.free O3 3 rfl
  have l3x3 := Own.lt O3 3 rfl
  have l3x3d0 := le_up 0 l3x3
  have l3x3d1 := le_up 1 l3x3
  simp only [upN] at l3x3d0 l3x3d1
  have HO3 := Lib.hid O3
  clear O3 hb3
  go_wp2_with fail
  refine (HR _ _ (newc _ _ _ _ rfl)).mono ?_
  rintro e w' ⟨rfl, rfl⟩
  go_wp2_with fail
  all_goals (try rw [Exit.noGoto_ret])
  go_ret3
  exact ⟨rfl, by go_grown⟩

set_option maxHeartbeats 4000000 in
set_option maxRecDepth 20000 in
theorem reach_far1 (n : Int) (x y : BitVec 256) (w : World) (h : okI n = true) (hy : ¬ (L y 0 = 0 ∧ L y 1 = 0 ∧ L y 2 = 0 ∧ L y 3 = 0)) (h1 : smallB (x + y) = false) :
    Calls Try.prog 81 #[.int .i64 n, W x, W y] w fun e w' => e = .returned (.tuple #[.int .i64 0, .int .u64 0, .int .i64 4]) ∧ Below w.heap.size w w' := by
  have HS1 := fun V : World => small_any (x + y) V
  have HS2 := fun V : World => small_any x V
  have HR := right_any
  have hq := eqWord0 (L y 0) (L y 1) (L y 2) (L y 3) 0 0 0 0
  have HR := fun (b : Nat) (V : World) hc => right_any b n V hc
  have x0 := L_lo x 0
  have s0 := L_lo (x + y) 0
  have hn : 0 ≤ n ∧ n ≤ 16777216 := by simp only [okI, Bool.and_eq_true, decide_eq_true_eq] at h; exact h
  rw [h] at HR
  rw [decide_eq_false hy] at hq
  clear hy
  simp only [h1, if_true, if_false, Bool.false_eq_true] at HS1
  generalize (if smallB x = true then L x 0 else 0) = E2 at HS2
  generalize smallB x = S2 at HS2
  go_enter Try.func81, Try.ntmps81
  go_wp2_with fail
  refine wp_scope_fwd 0 rfl ?_
  go_wp2_with fail
  refine (add_any x y _ _ _ (Own.get (Own.new (Own.new (Own.new (Own.new (Own.nil w) (w.heap.size) rfl) (w.heap.size + 1) (by simp)) (w.heap.size + 1 + 1) (by simp)) (w.heap.size + 1 + 1 + 1) (by simp)) 0 rfl)).mono ?_
  rintro e w1 ⟨rfl, hb1⟩
  have O1 := Own.grow' hb1 (Own.new (Own.new (Own.new (Own.new (Own.nil w) (w.heap.size) rfl) (w.heap.size + 1) (by simp)) (w.heap.size + 1 + 1) (by simp)) (w.heap.size + 1 + 1 + 1) (by simp))
  try simp only [List.setIfInBounds_toArray, List.set_cons_zero, List.set_cons_succ] at O1
  have bw1 : Below w.heap.size w w1 := Below.trans (by go_grown) (Below.mono hb1 (by first | omega | (simp; done) | (simp; omega)))
  have zw1 := Below.size hb1
  try simp only [World.size_alloc, World.size_drew, World.size_setCell] at zw1
  have c1x0 := Own.cell O1 0 rfl
  have f1x0 := Own.free O1 0 rfl
  have l1x0 := Own.lt O1 0 rfl
  have l1x0d0 := le_up 0 l1x0
  have l1x0d1 := le_up 1 l1x0
  simp only [upN] at l1x0d0 l1x0d1
  have c1x1 := Own.cell O1 1 rfl
  have f1x1 := Own.free O1 1 rfl
  have l1x1 := Own.lt O1 1 rfl
  have l1x1d0 := le_up 0 l1x1
  have l1x1d1 := le_up 1 l1x1
  simp only [upN] at l1x1d0 l1x1d1
  have c1x2 := Own.cell O1 2 rfl
  have f1x2 := Own.free O1 2 rfl
  have l1x2 := Own.lt O1 2 rfl
  have l1x2d0 := le_up 0 l1x2
  have l1x2d1 := le_up 1 l1x2
  simp only [upN] at l1x2d0 l1x2d1
  have c1x3 := Own.cell O1 3 rfl
  have f1x3 := Own.free O1 3 rfl
  have l1x3 := Own.lt O1 3 rfl
  have l1x3d0 := le_up 0 l1x3
  have l1x3d1 := le_up 1 l1x3
  simp only [upN] at l1x3d0 l1x3d1
  have HO1 := Lib.hid O1
  clear O1 hb1
  go_wp2_with fail
  refine (HS1 _).mono ?_
  rintro e w2 ⟨rfl, hb2⟩
  have O2 := Own.grow' hb2 HO1.out
  try simp only [List.setIfInBounds_toArray, List.set_cons_zero, List.set_cons_succ] at O2
  have bw2 : Below w.heap.size w w2 := Below.trans (by go_grown) (Below.mono hb2 (by first | omega | (simp; done) | (simp; omega)))
  have zw2 := Below.size hb2
  try simp only [World.size_alloc, World.size_drew, World.size_setCell] at zw2
  clear c1x0 f1x0 l1x0 l1x0d0 l1x0d1 c1x1 f1x1 l1x1 l1x1d0 l1x1d1 c1x2 f1x2 l1x2 l1x2d0 l1x2d1 c1x3 f1x3 l1x3 l1x3d0 l1x3d1
  have c2x0 := Own.cell O2 0 rfl
  have f2x0 := Own.free O2 0 rfl
  have l2x0 := Own.lt O2 0 rfl
  have l2x0d0 := le_up 0 l2x0
  have l2x0d1 := le_up 1 l2x0
  simp only [upN] at l2x0d0 l2x0d1
  have c2x1 := Own.cell O2 1 rfl
  have f2x1 := Own.free O2 1 rfl
  have l2x1 := Own.lt O2 1 rfl
  have l2x1d0 := le_up 0 l2x1
  have l2x1d1 := le_up 1 l2x1
  simp only [upN] at l2x1d0 l2x1d1
  have c2x2 := Own.cell O2 2 rfl
  have f2x2 := Own.free O2 2 rfl
  have l2x2 := Own.lt O2 2 rfl
  have l2x2d0 := le_up 0 l2x2
  have l2x2d1 := le_up 1 l2x2
  simp only [upN] at l2x2d0 l2x2d1
  have c2x3 := Own.cell O2 3 rfl
  have f2x3 := Own.free O2 3 rfl
  have l2x3 := Own.lt O2 3 rfl
  have l2x3d0 := le_up 0 l2x3
  have l2x3d1 := le_up 1 l2x3
  simp only [upN] at l2x3d0 l2x3d1
  have HO2 := Lib.hid O2
  clear O2 hb2
  go_wp2_with fail
  refine (HS2 _).mono ?_
  rintro e w3 ⟨rfl, hb3⟩
  have O3 := Own.grow' hb3 HO2.out
  try simp only [List.setIfInBounds_toArray, List.set_cons_zero, List.set_cons_succ] at O3
  have bw3 : Below w.heap.size w w3 := Below.trans (by go_grown) (Below.mono hb3 (by first | omega | (simp; done) | (simp; omega)))
  have zw3 := Below.size hb3
  try simp only [World.size_alloc, World.size_drew, World.size_setCell] at zw3
  clear c2x0 f2x0 l2x0 l2x0d0 l2x0d1 c2x1 f2x1 l2x1 l2x1d0 l2x1d1 c2x2 f2x2 l2x2 l2x2d0 l2x2d1 c2x3 f2x3 l2x3 l2x3d0 l2x3d1
  have c3x0 := Own.cell O3 0 rfl
  have f3x0 := Own.free O3 0 rfl
  have l3x0 := Own.lt O3 0 rfl
  have l3x0d0 := le_up 0 l3x0
  have l3x0d1 := le_up 1 l3x0
  simp only [upN] at l3x0d0 l3x0d1
  have c3x1 := Own.cell O3 1 rfl
  have f3x1 := Own.free O3 1 rfl
  have l3x1 := Own.lt O3 1 rfl
  have l3x1d0 := le_up 0 l3x1
  have l3x1d1 := le_up 1 l3x1
  simp only [upN] at l3x1d0 l3x1d1
  have c3x2 := Own.cell O3 2 rfl
  have f3x2 := Own.free O3 2 rfl
  have l3x2 := Own.lt O3 2 rfl
  have l3x2d0 := le_up 0 l3x2
  have l3x2d1 := le_up 1 l3x2
  simp only [upN] at l3x2d0 l3x2d1
  have c3x3 := Own.cell O3 3 rfl
  have f3x3 := Own.free O3 3 rfl
  have l3x3 := Own.lt O3 3 rfl
  have l3x3d0 := le_up 0 l3x3
  have l3x3d1 := le_up 1 l3x3
  simp only [upN] at l3x3d0 l3x3d1
  have HO3 := Lib.hid O3
  clear O3 hb3
  go_wp2_with fail
  refine (HR _ _ (newc _ _ _ _ rfl)).mono ?_
  rintro e w' ⟨rfl, rfl⟩
  go_wp2_with fail
  all_goals (first | (go_step3; refine ⟨rfl, ?_⟩) | skip)
  go_wp2_with fail
  all_goals (try rw [Exit.noGoto_ret])
  go_ret3
  exact ⟨rfl, by go_grown⟩

set_option maxHeartbeats 4000000 in
set_option maxRecDepth 20000 in
theorem reach_far2 (n : Int) (x y : BitVec 256) (w : World) (h : okI n = true) (hy : ¬ (L y 0 = 0 ∧ L y 1 = 0 ∧ L y 2 = 0 ∧ L y 3 = 0)) (h1 : smallB (x + y) = true) (h2 : smallB x = false) :
    Calls Try.prog 81 #[.int .i64 n, W x, W y] w fun e w' => e = .returned (.tuple #[.int .i64 0, .int .u64 0, .int .i64 4]) ∧ Below w.heap.size w w' := by
  have HS1 := fun V : World => small_any (x + y) V
  have HS2 := fun V : World => small_any x V
  have HR := right_any
  have hq := eqWord0 (L y 0) (L y 1) (L y 2) (L y 3) 0 0 0 0
  have HR := fun (b : Nat) (V : World) hc => right_any b n V hc
  have x0 := L_lo x 0
  have s0 := L_lo (x + y) 0
  have hn : 0 ≤ n ∧ n ≤ 16777216 := by simp only [okI, Bool.and_eq_true, decide_eq_true_eq] at h; exact h
  rw [h] at HR
  rw [decide_eq_false hy] at hq
  clear hy
  simp only [h1, if_true, if_false, Bool.false_eq_true] at HS1
  simp only [h2, if_true, if_false, Bool.false_eq_true] at HS2
  go_enter Try.func81, Try.ntmps81
  go_wp2_with fail
  refine wp_scope_fwd 0 rfl ?_
  go_wp2_with fail
  refine (add_any x y _ _ _ (Own.get (Own.new (Own.new (Own.new (Own.new (Own.nil w) (w.heap.size) rfl) (w.heap.size + 1) (by simp)) (w.heap.size + 1 + 1) (by simp)) (w.heap.size + 1 + 1 + 1) (by simp)) 0 rfl)).mono ?_
  rintro e w1 ⟨rfl, hb1⟩
  have O1 := Own.grow' hb1 (Own.new (Own.new (Own.new (Own.new (Own.nil w) (w.heap.size) rfl) (w.heap.size + 1) (by simp)) (w.heap.size + 1 + 1) (by simp)) (w.heap.size + 1 + 1 + 1) (by simp))
  try simp only [List.setIfInBounds_toArray, List.set_cons_zero, List.set_cons_succ] at O1
  have bw1 : Below w.heap.size w w1 := Below.trans (by go_grown) (Below.mono hb1 (by first | omega | (simp; done) | (simp; omega)))
  have zw1 := Below.size hb1
  try simp only [World.size_alloc, World.size_drew, World.size_setCell] at zw1
  have c1x0 := Own.cell O1 0 rfl
  have f1x0 := Own.free O1 0 rfl
  have l1x0 := Own.lt O1 0 rfl
  have l1x0d0 := le_up 0 l1x0
  have l1x0d1 := le_up 1 l1x0
  simp only [upN] at l1x0d0 l1x0d1
  have c1x1 := Own.cell O1 1 rfl
  have f1x1 := Own.free O1 1 rfl
  have l1x1 := Own.lt O1 1 rfl
  have l1x1d0 := le_up 0 l1x1
  have l1x1d1 := le_up 1 l1x1
  simp only [upN] at l1x1d0 l1x1d1
  have c1x2 := Own.cell O1 2 rfl
  have f1x2 := Own.free O1 2 rfl
  have l1x2 := Own.lt O1 2 rfl
  have l1x2d0 := le_up 0 l1x2
  have l1x2d1 := le_up 1 l1x2
  simp only [upN] at l1x2d0 l1x2d1
  have c1x3 := Own.cell O1 3 rfl
  have f1x3 := Own.free O1 3 rfl
  have l1x3 := Own.lt O1 3 rfl
  have l1x3d0 := le_up 0 l1x3
  have l1x3d1 := le_up 1 l1x3
  simp only [upN] at l1x3d0 l1x3d1
  have HO1 := Lib.hid O1
  clear O1 hb1
  go_wp2_with fail
  refine (HS1 _).mono ?_
  rintro e w2 ⟨rfl, hb2⟩
  have O2 := Own.grow' hb2 HO1.out
  try simp only [List.setIfInBounds_toArray, List.set_cons_zero, List.set_cons_succ] at O2
  have bw2 : Below w.heap.size w w2 := Below.trans (by go_grown) (Below.mono hb2 (by first | omega | (simp; done) | (simp; omega)))
  have zw2 := Below.size hb2
  try simp only [World.size_alloc, World.size_drew, World.size_setCell] at zw2
  clear c1x0 f1x0 l1x0 l1x0d0 l1x0d1 c1x1 f1x1 l1x1 l1x1d0 l1x1d1 c1x2 f1x2 l1x2 l1x2d0 l1x2d1 c1x3 f1x3 l1x3 l1x3d0 l1x3d1
  have c2x0 := Own.cell O2 0 rfl
  have f2x0 := Own.free O2 0 rfl
  have l2x0 := Own.lt O2 0 rfl
  have l2x0d0 := le_up 0 l2x0
  have l2x0d1 := le_up 1 l2x0
  simp only [upN] at l2x0d0 l2x0d1
  have c2x1 := Own.cell O2 1 rfl
  have f2x1 := Own.free O2 1 rfl
  have l2x1 := Own.lt O2 1 rfl
  have l2x1d0 := le_up 0 l2x1
  have l2x1d1 := le_up 1 l2x1
  simp only [upN] at l2x1d0 l2x1d1
  have c2x2 := Own.cell O2 2 rfl
  have f2x2 := Own.free O2 2 rfl
  have l2x2 := Own.lt O2 2 rfl
  have l2x2d0 := le_up 0 l2x2
  have l2x2d1 := le_up 1 l2x2
  simp only [upN] at l2x2d0 l2x2d1
  have c2x3 := Own.cell O2 3 rfl
  have f2x3 := Own.free O2 3 rfl
  have l2x3 := Own.lt O2 3 rfl
  have l2x3d0 := le_up 0 l2x3
  have l2x3d1 := le_up 1 l2x3
  simp only [upN] at l2x3d0 l2x3d1
  have HO2 := Lib.hid O2
  clear O2 hb2
  go_wp2_with fail
  refine (HS2 _).mono ?_
  rintro e w3 ⟨rfl, hb3⟩
  have O3 := Own.grow' hb3 HO2.out
  try simp only [List.setIfInBounds_toArray, List.set_cons_zero, List.set_cons_succ] at O3
  have bw3 : Below w.heap.size w w3 := Below.trans (by go_grown) (Below.mono hb3 (by first | omega | (simp; done) | (simp; omega)))
  have zw3 := Below.size hb3
  try simp only [World.size_alloc, World.size_drew, World.size_setCell] at zw3
  clear c2x0 f2x0 l2x0 l2x0d0 l2x0d1 c2x1 f2x1 l2x1 l2x1d0 l2x1d1 c2x2 f2x2 l2x2 l2x2d0 l2x2d1 c2x3 f2x3 l2x3 l2x3d0 l2x3d1
  have c3x0 := Own.cell O3 0 rfl
  have f3x0 := Own.free O3 0 rfl
  have l3x0 := Own.lt O3 0 rfl
  have l3x0d0 := le_up 0 l3x0
  have l3x0d1 := le_up 1 l3x0
  simp only [upN] at l3x0d0 l3x0d1
  have c3x1 := Own.cell O3 1 rfl
  have f3x1 := Own.free O3 1 rfl
  have l3x1 := Own.lt O3 1 rfl
  have l3x1d0 := le_up 0 l3x1
  have l3x1d1 := le_up 1 l3x1
  simp only [upN] at l3x1d0 l3x1d1
  have c3x2 := Own.cell O3 2 rfl
  have f3x2 := Own.free O3 2 rfl
  have l3x2 := Own.lt O3 2 rfl
  have l3x2d0 := le_up 0 l3x2
  have l3x2d1 := le_up 1 l3x2
  simp only [upN] at l3x2d0 l3x2d1
  have c3x3 := Own.cell O3 3 rfl
  have f3x3 := Own.free O3 3 rfl
  have l3x3 := Own.lt O3 3 rfl
  have l3x3d0 := le_up 0 l3x3
  have l3x3d1 := le_up 1 l3x3
  simp only [upN] at l3x3d0 l3x3d1
  have HO3 := Lib.hid O3
  clear O3 hb3
  go_wp2_with fail
  refine (HR _ _ (newc _ _ _ _ rfl)).mono ?_
  rintro e w' ⟨rfl, rfl⟩
  go_wp2_with fail
  all_goals (first | (go_step3; refine ⟨rfl, ?_⟩) | skip)
  go_wp2_with fail
  all_goals (try rw [Exit.noGoto_ret])
  go_ret3
  exact ⟨rfl, by go_grown⟩

set_option maxHeartbeats 4000000 in
set_option maxRecDepth 20000 in
theorem reach_far3 (n : Int) (x y : BitVec 256) (w : World) (h : okI n = true) (hy : ¬ (L y 0 = 0 ∧ L y 1 = 0 ∧ L y 2 = 0 ∧ L y 3 = 0)) (h1 : smallB (x + y) = true) (h2 : smallB x = true) (h3 : 16777216 < L (x + y) 0) :
    Calls Try.prog 81 #[.int .i64 n, W x, W y] w fun e w' => e = .returned (.tuple #[.int .i64 0, .int .u64 0, .int .i64 4]) ∧ Below w.heap.size w w' := by
  have HS1 := fun V : World => small_any (x + y) V
  have HS2 := fun V : World => small_any x V
  have HR := right_any
  have hq := eqWord0 (L y 0) (L y 1) (L y 2) (L y 3) 0 0 0 0
  have HR := fun (b : Nat) (V : World) hc => right_any b n V hc
  have x0 := L_lo x 0
  have s0 := L_lo (x + y) 0
  have hn : 0 ≤ n ∧ n ≤ 16777216 := by simp only [okI, Bool.and_eq_true, decide_eq_true_eq] at h; exact h
  rw [h] at HR
  rw [decide_eq_false hy] at hq
  clear hy
  simp only [h1, if_true, if_false, Bool.false_eq_true] at HS1
  simp only [h2, if_true, if_false, Bool.false_eq_true] at HS2
  go_enter Try.func81, Try.ntmps81
  go_wp2_with fail
  refine wp_scope_fwd 0 rfl ?_
  go_wp2_with fail
  refine (add_any x y _ _ _ (Own.get (Own.new (Own.new (Own.new (Own.new (Own.nil w) (w.heap.size) rfl) (w.heap.size + 1) (by simp)) (w.heap.size + 1 + 1) (by simp)) (w.heap.size + 1 + 1 + 1) (by simp)) 0 rfl)).mono ?_
  rintro e w1 ⟨rfl, hb1⟩
  have O1 := Own.grow' hb1 (Own.new (Own.new (Own.new (Own.new (Own.nil w) (w.heap.size) rfl) (w.heap.size + 1) (by simp)) (w.heap.size + 1 + 1) (by simp)) (w.heap.size + 1 + 1 + 1) (by simp))
  try simp only [List.setIfInBounds_toArray, List.set_cons_zero, List.set_cons_succ] at O1
  have bw1 : Below w.heap.size w w1 := Below.trans (by go_grown) (Below.mono hb1 (by first | omega | (simp; done) | (simp; omega)))
  have zw1 := Below.size hb1
  try simp only [World.size_alloc, World.size_drew, World.size_setCell] at zw1
  have c1x0 := Own.cell O1 0 rfl
  have f1x0 := Own.free O1 0 rfl
  have l1x0 := Own.lt O1 0 rfl
  have l1x0d0 := le_up 0 l1x0
  have l1x0d1 := le_up 1 l1x0
  simp only [upN] at l1x0d0 l1x0d1
  have c1x1 := Own.cell O1 1 rfl
  have f1x1 := Own.free O1 1 rfl
  have l1x1 := Own.lt O1 1 rfl
  have l1x1d0 := le_up 0 l1x1
  have l1x1d1 := le_up 1 l1x1
  simp only [upN] at l1x1d0 l1x1d1
  have c1x2 := Own.cell O1 2 rfl
  have f1x2 := Own.free O1 2 rfl
  have l1x2 := Own.lt O1 2 rfl
  have l1x2d0 := le_up 0 l1x2
  have l1x2d1 := le_up 1 l1x2
  simp only [upN] at l1x2d0 l1x2d1
  have c1x3 := Own.cell O1 3 rfl
  have f1x3 := Own.free O1 3 rfl
  have l1x3 := Own.lt O1 3 rfl
  have l1x3d0 := le_up 0 l1x3
  have l1x3d1 := le_up 1 l1x3
  simp only [upN] at l1x3d0 l1x3d1
  have HO1 := Lib.hid O1
  clear O1 hb1
  go_wp2_with fail
  refine (HS1 _).mono ?_
  rintro e w2 ⟨rfl, hb2⟩
  have O2 := Own.grow' hb2 HO1.out
  try simp only [List.setIfInBounds_toArray, List.set_cons_zero, List.set_cons_succ] at O2
  have bw2 : Below w.heap.size w w2 := Below.trans (by go_grown) (Below.mono hb2 (by first | omega | (simp; done) | (simp; omega)))
  have zw2 := Below.size hb2
  try simp only [World.size_alloc, World.size_drew, World.size_setCell] at zw2
  clear c1x0 f1x0 l1x0 l1x0d0 l1x0d1 c1x1 f1x1 l1x1 l1x1d0 l1x1d1 c1x2 f1x2 l1x2 l1x2d0 l1x2d1 c1x3 f1x3 l1x3 l1x3d0 l1x3d1
  have c2x0 := Own.cell O2 0 rfl
  have f2x0 := Own.free O2 0 rfl
  have l2x0 := Own.lt O2 0 rfl
  have l2x0d0 := le_up 0 l2x0
  have l2x0d1 := le_up 1 l2x0
  simp only [upN] at l2x0d0 l2x0d1
  have c2x1 := Own.cell O2 1 rfl
  have f2x1 := Own.free O2 1 rfl
  have l2x1 := Own.lt O2 1 rfl
  have l2x1d0 := le_up 0 l2x1
  have l2x1d1 := le_up 1 l2x1
  simp only [upN] at l2x1d0 l2x1d1
  have c2x2 := Own.cell O2 2 rfl
  have f2x2 := Own.free O2 2 rfl
  have l2x2 := Own.lt O2 2 rfl
  have l2x2d0 := le_up 0 l2x2
  have l2x2d1 := le_up 1 l2x2
  simp only [upN] at l2x2d0 l2x2d1
  have c2x3 := Own.cell O2 3 rfl
  have f2x3 := Own.free O2 3 rfl
  have l2x3 := Own.lt O2 3 rfl
  have l2x3d0 := le_up 0 l2x3
  have l2x3d1 := le_up 1 l2x3
  simp only [upN] at l2x3d0 l2x3d1
  have HO2 := Lib.hid O2
  clear O2 hb2
  go_wp2_with fail
  refine (HS2 _).mono ?_
  rintro e w3 ⟨rfl, hb3⟩
  have O3 := Own.grow' hb3 HO2.out
  try simp only [List.setIfInBounds_toArray, List.set_cons_zero, List.set_cons_succ] at O3
  have bw3 : Below w.heap.size w w3 := Below.trans (by go_grown) (Below.mono hb3 (by first | omega | (simp; done) | (simp; omega)))
  have zw3 := Below.size hb3
  try simp only [World.size_alloc, World.size_drew, World.size_setCell] at zw3
  clear c2x0 f2x0 l2x0 l2x0d0 l2x0d1 c2x1 f2x1 l2x1 l2x1d0 l2x1d1 c2x2 f2x2 l2x2 l2x2d0 l2x2d1 c2x3 f2x3 l2x3 l2x3d0 l2x3d1
  have c3x0 := Own.cell O3 0 rfl
  have f3x0 := Own.free O3 0 rfl
  have l3x0 := Own.lt O3 0 rfl
  have l3x0d0 := le_up 0 l3x0
  have l3x0d1 := le_up 1 l3x0
  simp only [upN] at l3x0d0 l3x0d1
  have c3x1 := Own.cell O3 1 rfl
  have f3x1 := Own.free O3 1 rfl
  have l3x1 := Own.lt O3 1 rfl
  have l3x1d0 := le_up 0 l3x1
  have l3x1d1 := le_up 1 l3x1
  simp only [upN] at l3x1d0 l3x1d1
  have c3x2 := Own.cell O3 2 rfl
  have f3x2 := Own.free O3 2 rfl
  have l3x2 := Own.lt O3 2 rfl
  have l3x2d0 := le_up 0 l3x2
  have l3x2d1 := le_up 1 l3x2
  simp only [upN] at l3x2d0 l3x2d1
  have c3x3 := Own.cell O3 3 rfl
  have f3x3 := Own.free O3 3 rfl
  have l3x3 := Own.lt O3 3 rfl
  have l3x3d0 := le_up 0 l3x3
  have l3x3d1 := le_up 1 l3x3
  simp only [upN] at l3x3d0 l3x3d1
  have HO3 := Lib.hid O3
  clear O3 hb3
  go_wp2_with fail
  refine (HR _ _ (newc _ _ _ _ rfl)).mono ?_
  rintro e w' ⟨rfl, rfl⟩
  go_wp2_with fail
  all_goals (first | (go_step3; refine ⟨rfl, ?_⟩) | skip)
  go_wp2_with fail
  all_goals (try rw [Exit.noGoto_ret])
  go_ret3
  exact ⟨rfl, by go_grown⟩

set_option maxHeartbeats 4000000 in
set_option maxRecDepth 20000 in
theorem reach_far4 (n : Int) (x y : BitVec 256) (w : World) (h : okI n = true) (hy : ¬ (L y 0 = 0 ∧ L y 1 = 0 ∧ L y 2 = 0 ∧ L y 3 = 0)) (h1 : smallB (x + y) = true) (h2 : smallB x = true) (h3 : L (x + y) 0 ≤ 16777216) (h4 : L (x + y) 0 ≤ L x 0) :
    Calls Try.prog 81 #[.int .i64 n, W x, W y] w fun e w' => e = .returned (.tuple #[.int .i64 0, .int .u64 0, .int .i64 4]) ∧ Below w.heap.size w w' := by
  have HS1 := fun V : World => small_any (x + y) V
  have HS2 := fun V : World => small_any x V
  have HR := right_any
  have hq := eqWord0 (L y 0) (L y 1) (L y 2) (L y 3) 0 0 0 0
  have HR := fun (b : Nat) (V : World) hc => right_any b n V hc
  have x0 := L_lo x 0
  have s0 := L_lo (x + y) 0
  have hn : 0 ≤ n ∧ n ≤ 16777216 := by simp only [okI, Bool.and_eq_true, decide_eq_true_eq] at h; exact h
  rw [h] at HR
  rw [decide_eq_false hy] at hq
  clear hy
  simp only [h1, if_true, if_false, Bool.false_eq_true] at HS1
  simp only [h2, if_true, if_false, Bool.false_eq_true] at HS2
  go_enter Try.func81, Try.ntmps81
  go_wp2_with fail
  refine wp_scope_fwd 0 rfl ?_
  go_wp2_with fail
  refine (add_any x y _ _ _ (Own.get (Own.new (Own.new (Own.new (Own.new (Own.nil w) (w.heap.size) rfl) (w.heap.size + 1) (by simp)) (w.heap.size + 1 + 1) (by simp)) (w.heap.size + 1 + 1 + 1) (by simp)) 0 rfl)).mono ?_
  rintro e w1 ⟨rfl, hb1⟩
  have O1 := Own.grow' hb1 (Own.new (Own.new (Own.new (Own.new (Own.nil w) (w.heap.size) rfl) (w.heap.size + 1) (by simp)) (w.heap.size + 1 + 1) (by simp)) (w.heap.size + 1 + 1 + 1) (by simp))
  try simp only [List.setIfInBounds_toArray, List.set_cons_zero, List.set_cons_succ] at O1
  have bw1 : Below w.heap.size w w1 := Below.trans (by go_grown) (Below.mono hb1 (by first | omega | (simp; done) | (simp; omega)))
  have zw1 := Below.size hb1
  try simp only [World.size_alloc, World.size_drew, World.size_setCell] at zw1
  have c1x0 := Own.cell O1 0 rfl
  have f1x0 := Own.free O1 0 rfl
  have l1x0 := Own.lt O1 0 rfl
  have l1x0d0 := le_up 0 l1x0
  have l1x0d1 := le_up 1 l1x0
  simp only [upN] at l1x0d0 l1x0d1
  have c1x1 := Own.cell O1 1 rfl
  have f1x1 := Own.free O1 1 rfl
  have l1x1 := Own.lt O1 1 rfl
  have l1x1d0 := le_up 0 l1x1
  have l1x1d1 := le_up 1 l1x1
  simp only [upN] at l1x1d0 l1x1d1
  have c1x2 := Own.cell O1 2 rfl
  have f1x2 := Own.free O1 2 rfl
  have l1x2 := Own.lt O1 2 rfl
  have l1x2d0 := le_up 0 l1x2
  have l1x2d1 := le_up 1 l1x2
  simp only [upN] at l1x2d0 l1x2d1
  have c1x3 := Own.cell O1 3 rfl
  have f1x3 := Own.free O1 3 rfl
  have l1x3 := Own.lt O1 3 rfl
  have l1x3d0 := le_up 0 l1x3
  have l1x3d1 := le_up 1 l1x3
  simp only [upN] at l1x3d0 l1x3d1
  have HO1 := Lib.hid O1
  clear O1 hb1
  go_wp2_with fail
  refine (HS1 _).mono ?_
  rintro e w2 ⟨rfl, hb2⟩
  have O2 := Own.grow' hb2 HO1.out
  try simp only [List.setIfInBounds_toArray, List.set_cons_zero, List.set_cons_succ] at O2
  have bw2 : Below w.heap.size w w2 := Below.trans (by go_grown) (Below.mono hb2 (by first | omega | (simp; done) | (simp; omega)))
  have zw2 := Below.size hb2
  try simp only [World.size_alloc, World.size_drew, World.size_setCell] at zw2
  clear c1x0 f1x0 l1x0 l1x0d0 l1x0d1 c1x1 f1x1 l1x1 l1x1d0 l1x1d1 c1x2 f1x2 l1x2 l1x2d0 l1x2d1 c1x3 f1x3 l1x3 l1x3d0 l1x3d1
  have c2x0 := Own.cell O2 0 rfl
  have f2x0 := Own.free O2 0 rfl
  have l2x0 := Own.lt O2 0 rfl
  have l2x0d0 := le_up 0 l2x0
  have l2x0d1 := le_up 1 l2x0
  simp only [upN] at l2x0d0 l2x0d1
  have c2x1 := Own.cell O2 1 rfl
  have f2x1 := Own.free O2 1 rfl
  have l2x1 := Own.lt O2 1 rfl
  have l2x1d0 := le_up 0 l2x1
  have l2x1d1 := le_up 1 l2x1
  simp only [upN] at l2x1d0 l2x1d1
  have c2x2 := Own.cell O2 2 rfl
  have f2x2 := Own.free O2 2 rfl
  have l2x2 := Own.lt O2 2 rfl
  have l2x2d0 := le_up 0 l2x2
  have l2x2d1 := le_up 1 l2x2
  simp only [upN] at l2x2d0 l2x2d1
  have c2x3 := Own.cell O2 3 rfl
  have f2x3 := Own.free O2 3 rfl
  have l2x3 := Own.lt O2 3 rfl
  have l2x3d0 := le_up 0 l2x3
  have l2x3d1 := le_up 1 l2x3
  simp only [upN] at l2x3d0 l2x3d1
  have HO2 := Lib.hid O2
  clear O2 hb2
  go_wp2_with fail
  refine (HS2 _).mono ?_
  rintro e w3 ⟨rfl, hb3⟩
  have O3 := Own.grow' hb3 HO2.out
  try simp only [List.setIfInBounds_toArray, List.set_cons_zero, List.set_cons_succ] at O3
  have bw3 : Below w.heap.size w w3 := Below.trans (by go_grown) (Below.mono hb3 (by first | omega | (simp; done) | (simp; omega)))
  have zw3 := Below.size hb3
  try simp only [World.size_alloc, World.size_drew, World.size_setCell] at zw3
  clear c2x0 f2x0 l2x0 l2x0d0 l2x0d1 c2x1 f2x1 l2x1 l2x1d0 l2x1d1 c2x2 f2x2 l2x2 l2x2d0 l2x2d1 c2x3 f2x3 l2x3 l2x3d0 l2x3d1
  have c3x0 := Own.cell O3 0 rfl
  have f3x0 := Own.free O3 0 rfl
  have l3x0 := Own.lt O3 0 rfl
  have l3x0d0 := le_up 0 l3x0
  have l3x0d1 := le_up 1 l3x0
  simp only [upN] at l3x0d0 l3x0d1
  have c3x1 := Own.cell O3 1 rfl
  have f3x1 := Own.free O3 1 rfl
  have l3x1 := Own.lt O3 1 rfl
  have l3x1d0 := le_up 0 l3x1
  have l3x1d1 := le_up 1 l3x1
  simp only [upN] at l3x1d0 l3x1d1
  have c3x2 := Own.cell O3 2 rfl
  have f3x2 := Own.free O3 2 rfl
  have l3x2 := Own.lt O3 2 rfl
  have l3x2d0 := le_up 0 l3x2
  have l3x2d1 := le_up 1 l3x2
  simp only [upN] at l3x2d0 l3x2d1
  have c3x3 := Own.cell O3 3 rfl
  have f3x3 := Own.free O3 3 rfl
  have l3x3 := Own.lt O3 3 rfl
  have l3x3d0 := le_up 0 l3x3
  have l3x3d1 := le_up 1 l3x3
  simp only [upN] at l3x3d0 l3x3d1
  have HO3 := Lib.hid O3
  clear O3 hb3
  go_wp2_with fail
  refine (HR _ _ (newc _ _ _ _ rfl)).mono ?_
  rintro e w' ⟨rfl, rfl⟩
  go_wp2_with fail
  all_goals (first | (go_step3; refine ⟨rfl, ?_⟩) | skip)
  go_wp2_with fail
  all_goals (try rw [Exit.noGoto_ret])
  go_ret3
  exact ⟨rfl, by go_grown⟩

set_option maxHeartbeats 4000000 in
set_option maxRecDepth 20000 in
theorem reach_ok (n : Int) (x y : BitVec 256) (w : World) (h : okI n = true) (hy : ¬ (L y 0 = 0 ∧ L y 1 = 0 ∧ L y 2 = 0 ∧ L y 3 = 0)) (h1 : smallB (x + y) = true) (h2 : smallB x = true) (h3 : L (x + y) 0 ≤ 16777216) (h4 : L x 0 < L (x + y) 0) :
    Calls Try.prog 81 #[.int .i64 n, W x, W y] w fun e w' => e = .returned (.tuple #[.int .i64 (max n (wordsI (L (x + y) 0))), .int .u64 (IntKind.u64.wrap (costI (max n (wordsI (L (x + y) 0))) - costI n)), .int .i64 0]) ∧ Below w.heap.size w w' := by
  have HS1 := fun V : World => small_any (x + y) V
  have HS2 := fun V : World => small_any x V
  have HR := right_any
  have hq := eqWord0 (L y 0) (L y 1) (L y 2) (L y 3) 0 0 0 0
  have HR := fun (b : Nat) (V : World) hc => right_any b n V hc
  have x0 := L_lo x 0
  have s0 := L_lo (x + y) 0
  have hn : 0 ≤ n ∧ n ≤ 16777216 := by simp only [okI, Bool.and_eq_true, decide_eq_true_eq] at h; exact h
  rw [h] at HR
  rw [decide_eq_false hy] at hq
  clear hy
  simp only [h1, if_true, if_false, Bool.false_eq_true] at HS1
  simp only [h2, if_true, if_false, Bool.false_eq_true] at HS2
  go_enter Try.func81, Try.ntmps81
  go_wp2_with fail
  go_step3
  go_wp2_with fail
  refine (add_any x y _ _ _ (Own.get (Own.new (Own.new (Own.new (Own.new (Own.nil w) (w.heap.size) rfl) (w.heap.size + 1) (by simp)) (w.heap.size + 1 + 1) (by simp)) (w.heap.size + 1 + 1 + 1) (by simp)) 0 rfl)).mono ?_
  rintro e w1 ⟨rfl, hb1⟩
  have O1 := Own.grow' hb1 (Own.new (Own.new (Own.new (Own.new (Own.nil w) (w.heap.size) rfl) (w.heap.size + 1) (by simp)) (w.heap.size + 1 + 1) (by simp)) (w.heap.size + 1 + 1 + 1) (by simp))
  try simp only [List.setIfInBounds_toArray, List.set_cons_zero, List.set_cons_succ] at O1
  have bw1 : Below w.heap.size w w1 := Below.trans (by go_grown) (Below.mono hb1 (by first | omega | (simp; done) | (simp; omega)))
  have zw1 := Below.size hb1
  try simp only [World.size_alloc, World.size_drew, World.size_setCell] at zw1
  have c1x0 := Own.cell O1 0 rfl
  have f1x0 := Own.free O1 0 rfl
  have l1x0 := Own.lt O1 0 rfl
  have l1x0d0 := le_up 0 l1x0
  have l1x0d1 := le_up 1 l1x0
  simp only [upN] at l1x0d0 l1x0d1
  have c1x1 := Own.cell O1 1 rfl
  have f1x1 := Own.free O1 1 rfl
  have l1x1 := Own.lt O1 1 rfl
  have l1x1d0 := le_up 0 l1x1
  have l1x1d1 := le_up 1 l1x1
  simp only [upN] at l1x1d0 l1x1d1
  have c1x2 := Own.cell O1 2 rfl
  have f1x2 := Own.free O1 2 rfl
  have l1x2 := Own.lt O1 2 rfl
  have l1x2d0 := le_up 0 l1x2
  have l1x2d1 := le_up 1 l1x2
  simp only [upN] at l1x2d0 l1x2d1
  have c1x3 := Own.cell O1 3 rfl
  have f1x3 := Own.free O1 3 rfl
  have l1x3 := Own.lt O1 3 rfl
  have l1x3d0 := le_up 0 l1x3
  have l1x3d1 := le_up 1 l1x3
  simp only [upN] at l1x3d0 l1x3d1
  have HO1 := Lib.hid O1
  clear O1 hb1
  go_wp2_with fail
  refine (HS1 _).mono ?_
  rintro e w2 ⟨rfl, hb2⟩
  have O2 := Own.grow' hb2 HO1.out
  try simp only [List.setIfInBounds_toArray, List.set_cons_zero, List.set_cons_succ] at O2
  have bw2 : Below w.heap.size w w2 := Below.trans (by go_grown) (Below.mono hb2 (by first | omega | (simp; done) | (simp; omega)))
  have zw2 := Below.size hb2
  try simp only [World.size_alloc, World.size_drew, World.size_setCell] at zw2
  clear c1x0 f1x0 l1x0 l1x0d0 l1x0d1 c1x1 f1x1 l1x1 l1x1d0 l1x1d1 c1x2 f1x2 l1x2 l1x2d0 l1x2d1 c1x3 f1x3 l1x3 l1x3d0 l1x3d1
  have c2x0 := Own.cell O2 0 rfl
  have f2x0 := Own.free O2 0 rfl
  have l2x0 := Own.lt O2 0 rfl
  have l2x0d0 := le_up 0 l2x0
  have l2x0d1 := le_up 1 l2x0
  simp only [upN] at l2x0d0 l2x0d1
  have c2x1 := Own.cell O2 1 rfl
  have f2x1 := Own.free O2 1 rfl
  have l2x1 := Own.lt O2 1 rfl
  have l2x1d0 := le_up 0 l2x1
  have l2x1d1 := le_up 1 l2x1
  simp only [upN] at l2x1d0 l2x1d1
  have c2x2 := Own.cell O2 2 rfl
  have f2x2 := Own.free O2 2 rfl
  have l2x2 := Own.lt O2 2 rfl
  have l2x2d0 := le_up 0 l2x2
  have l2x2d1 := le_up 1 l2x2
  simp only [upN] at l2x2d0 l2x2d1
  have c2x3 := Own.cell O2 3 rfl
  have f2x3 := Own.free O2 3 rfl
  have l2x3 := Own.lt O2 3 rfl
  have l2x3d0 := le_up 0 l2x3
  have l2x3d1 := le_up 1 l2x3
  simp only [upN] at l2x3d0 l2x3d1
  have HO2 := Lib.hid O2
  clear O2 hb2
  go_wp2_with fail
  refine (HS2 _).mono ?_
  rintro e w3 ⟨rfl, hb3⟩
  have O3 := Own.grow' hb3 HO2.out
  try simp only [List.setIfInBounds_toArray, List.set_cons_zero, List.set_cons_succ] at O3
  have bw3 : Below w.heap.size w w3 := Below.trans (by go_grown) (Below.mono hb3 (by first | omega | (simp; done) | (simp; omega)))
  have zw3 := Below.size hb3
  try simp only [World.size_alloc, World.size_drew, World.size_setCell] at zw3
  clear c2x0 f2x0 l2x0 l2x0d0 l2x0d1 c2x1 f2x1 l2x1 l2x1d0 l2x1d1 c2x2 f2x2 l2x2 l2x2d0 l2x2d1 c2x3 f2x3 l2x3 l2x3d0 l2x3d1
  have c3x0 := Own.cell O3 0 rfl
  have f3x0 := Own.free O3 0 rfl
  have l3x0 := Own.lt O3 0 rfl
  have l3x0d0 := le_up 0 l3x0
  have l3x0d1 := le_up 1 l3x0
  simp only [upN] at l3x0d0 l3x0d1
  have c3x1 := Own.cell O3 1 rfl
  have f3x1 := Own.free O3 1 rfl
  have l3x1 := Own.lt O3 1 rfl
  have l3x1d0 := le_up 0 l3x1
  have l3x1d1 := le_up 1 l3x1
  simp only [upN] at l3x1d0 l3x1d1
  have c3x2 := Own.cell O3 2 rfl
  have f3x2 := Own.free O3 2 rfl
  have l3x2 := Own.lt O3 2 rfl
  have l3x2d0 := le_up 0 l3x2
  have l3x2d1 := le_up 1 l3x2
  simp only [upN] at l3x2d0 l3x2d1
  have c3x3 := Own.cell O3 3 rfl
  have f3x3 := Own.free O3 3 rfl
  have l3x3 := Own.lt O3 3 rfl
  have l3x3d0 := le_up 0 l3x3
  have l3x3d1 := le_up 1 l3x3
  simp only [upN] at l3x3d0 l3x3d1
  have HO3 := Lib.hid O3
  clear O3 hb3
  go_wp2_with fail
  refine (HR _ _ (newc _ _ _ _ rfl)).mono ?_
  rintro e w' ⟨rfl, rfl⟩
  go_wp2_with fail
  refine (words_any _ _ (by omega) (by omega)).mono ?_
  rintro e w' ⟨rfl, rfl⟩
  go_wp2_with fail
  refine (to_any _ n _ _ _ (Own.get (Own.new HO3.out (w3.heap.size) rfl) 2 rfl) (by omega) (by omega) (wordsI_nn (by omega)) (wordsI_le (by omega))).mono ?_
  rintro e w' ⟨rfl, rfl⟩
  go_wp2_with fail
  all_goals (try rw [Exit.noGoto_ret])
  go_ret3
  exact ⟨rfl, by go_grown⟩
end Go.Proofs.Ytcfomhnfhalmaaa
end

section
set_option linter.unusedVariables false
set_option linter.unusedSimpArgs false
namespace Go.Proofs.Ytcfomhnfhalmaaa
open Go.RowKit

theorem reach_any (n : Int) (x y : BitVec 256) (w : World) :
    Calls Try.prog 81 #[.int .i64 n, W x, W y] w fun e w' => e = .returned (.tuple #[.int .i64 (reachN n x y), .int .u64 (reachC n x y), .int .i64 (reachE n x y)]) ∧ Below w.heap.size w w' := by
  unfold reachN reachC reachE
  rcases h : okI n with _ | _
  · exact reach_bad n x y w h
  have hn : 0 ≤ n ∧ n ≤ 16777216 := by simp only [okI, Bool.and_eq_true, decide_eq_true_eq] at h; exact h
  by_cases hy : L y 0 = 0 ∧ L y 1 = 0 ∧ L y 2 = 0 ∧ L y 3 = 0
  · have hy' := (nought_iff y).1 hy
    simp only [if_true, if_pos hy']
    exact reach_nought n x y w h hy
  have hy' : ¬ y = 0 := fun e => hy ((nought_iff y).2 e)
  simp only [if_true, if_neg hy']
  unfold endOk
  rcases h1 : smallB (x + y) with _ | _
  · exact reach_far1 n x y w h hy h1
  rcases h2 : smallB x with _ | _
  · exact reach_far2 n x y w h hy h1 h2
  by_cases h3 : L (x + y) 0 ≤ 16777216
  · by_cases h4 : L x 0 < L (x + y) 0
    · rw [decide_eq_true h3, decide_eq_true h4]
      have hw := wordsI_le (n := L (x + y) 0) h3
      have hm : max n (wordsI (L (x + y) 0)) ≤ 16777216 := by omega
      have hb := costI_bd (n := max n (wordsI (L (x + y) 0))) (by omega) hm
      have hb2 := costI_bd hn.1 hn.2
      have hmono := costI_mono (a := n) (b := max n (wordsI (L (x + y) 0))) hn.1 (by omega)
      have := reach_ok n x y w h hy h1 h2 h3 h4
      rw [IntWalk.u64_in _ (by omega)] at this
      exact this
    · rw [decide_eq_true h3, decide_eq_false h4]
      exact reach_far4 n x y w h hy h1 h2 h3 (by omega)
  · rw [decide_eq_false h3]
    exact reach_far3 n x y w h hy h1 h2 (by omega)
end Go.Proofs.Ytcfomhnfhalmaaa
end

section
set_option linter.unusedVariables false
set_option linter.unusedSimpArgs false
set_option maxRecDepth 100000
namespace Go.Proofs.Ytcfomhnfhalmaaa
open Go.RowKit

/-- Words of one number. -/
def small1 : AV → Option (Bool × Int)
  | .agg [.int .u64 l a, .int .u64 true b, .int .u64 true c, .int .u64 true d] => bif decide (b = 0) && (decide (c = 0) && decide (d = 0)) then some (l, a) else none
  | _ => none
theorem W_small (a : Int) (h0 : 0 ≤ a) (h1 : a < 18446744073709551616) : W (BitVec.ofInt 256 a) = .agg #[.int .u64 a, .int .u64 0, .int .u64 0, .int .u64 0] := by
  obtain ⟨n, rfl⟩ := Int.eq_ofNat_of_zero_le h0
  have hn : n < 18446744073709551616 := by omega
  rw [BitVec.ofInt_natCast]
  show Value.agg #[_, _, _, _] = _
  have e : ∀ i, L (BitVec.ofNat 256 n) i = if i = 0 then (n : Int) else 0 := fun i => by
    rw [L_eq]
    have hm : (BitVec.ofNat 256 n).toNat = n := by rw [BitVec.toNat_ofNat]; exact Nat.mod_eq_of_lt (Nat.lt_trans hn (by decide))
    rw [hm]
    split
    · next h => subst h; simp; omega
    · next h =>
      have : 18446744073709551616 ≤ 2 ^ (64 * i) := by
        have : 2 ^ (64 * 1) ≤ 2 ^ (64 * i) := Nat.pow_le_pow_right (by omega) (by omega)
        simpa using this
      have : n / 2 ^ (64 * i) = 0 := Nat.div_eq_of_lt (by omega)
      rw [this]; rfl
  simp [e]
theorem small1_rel {R : Rws} {ρ : Nums} {x : AV} {l : Bool} {a : Int} {V : Value} (h : small1 x = some (l, a)) (hv : Rel R ρ x V) (h0 : 0 ≤ a) (h1 : a < 18446744073709551616) : V = W (BitVec.ofInt 256 a) := by
  unfold small1 at h
  split at h
  · rename_i l' a' b c d
    cases hd : (decide (b = 0) && (decide (c = 0) && decide (d = 0))) <;> simp only [hd, cond_true, cond_false] at h
    · cases h
    · cases h
      simp only [Bool.and_eq_true, decide_eq_true_eq] at hd
      obtain ⟨rfl, rfl, rfl⟩ := hd
      rw [W_small a h0 h1]
      cases hv with | agg hc =>
      cases hc with | cons a1 hc =>
      cases hc with | cons a2 hc =>
      cases hc with | cons a3 hc =>
      cases hc with | cons a4 hc =>
      cases hc
      cases a1; cases a2; cases a3; cases a4
      rfl
  · cases h
def ctrReach : List AV → Mem → Option VC
  | [.int .i64 l n, x, y], _ => match small1 x, small1 y with
    | some (l1, a), some (l2, m) => some (.tuple [.int .i64 (l && (l1 && l2)) (reachN n (BitVec.ofInt 256 a) (BitVec.ofInt 256 m)), .int .u64 false (reachC n (BitVec.ofInt 256 a) (BitVec.ofInt 256 m)), .int .i64 (l && (l1 && l2)) (reachE n (BitVec.ofInt 256 a) (BitVec.ofInt 256 m))], [decide (0 ≤ a ∧ a < 18446744073709551616), decide (0 ≤ m ∧ m < 18446744073709551616)])
    | _, _ => none
  | _, _ => none
theorem ctrReach_ok {R : Rws} : Good Try.prog R 81 ctrReach := by
  refine ⟨enters_of Try.func81 (by kernel_rfl) rfl, fun args H v cs hv hcs => ?_⟩
  unfold ctrReach at hv
  split at hv
  · rename_i l n x y
    split at hv
    · rename_i l1 a l2 m h1 h2
      cases hv
      have q1 := of_decide_eq_true (hcs (decide (0 ≤ a ∧ a < 18446744073709551616)) (List.mem_cons_self ..))
      have q2 := of_decide_eq_true (hcs (decide (0 ≤ m ∧ m < 18446744073709551616)) (List.mem_cons_of_mem _ (List.mem_cons_self ..)))
      refine ⟨_, rfl, fun Hr Args ha _ _ w _ => ?_⟩
      cases ha with | cons a1 ha =>
      cases ha with | cons a2 ha =>
      cases ha with | cons a3 ha =>
      cases ha
      cases a1
      obtain rfl := small1_rel h1 a2 q1.1 q1.2
      obtain rfl := small1_rel h2 a3 q2.1 q2.2
      exact reach_any n _ _ w
    · cases hv
  · cases hv
end Go.Proofs.Ytcfomhnfhalmaaa
end

section
set_option linter.unusedVariables false
set_option linter.unusedSimpArgs false
namespace Go.Proofs.Ytcfomhnfhalmaaa
open Go.RowKit

/-- Below, by bits. -/
def belowI (x y : Int) : Bool := bits .andNot .u64 x y == 0
theorem setBelow_any (x y : Int) (w : World) :
    Calls Try.prog 106 #[.int .u64 x, .int .u64 y] w fun e w' => e = .returned (.bool (belowI x y)) ∧ w = w' := by
  go_enter Try.func106, Try.ntmps106
  go_wp2_with fail
  go_ret
  exact ⟨rfl, rfl⟩
set_option maxRecDepth 100000 in
theorem below_any (x y : Int) (w : World) :
    Calls Try.prog 99 #[.int .u64 x, .int .u64 y] w fun e w' => e = .returned (.bool (belowI x y)) ∧ w = w' := by
  have hfl : ∀ W : World, (Instr.field 154 (.agg #[.int .u64 x]) 0).run Try.prog W = .ok (.int .u64 x) W := fun _ => by kernel_rfl
  go_enter Try.func99, Try.ntmps99
  go_wp2_with fail
  refine (setBelow_any _ _ _).mono ?_
  rintro e w' ⟨rfl, rfl⟩
  go_wp2_with fail
  go_ret
  exact ⟨rfl, rfl⟩

/-- A bit of a number. -/
def hasI (x : Int) (k : Nat) : Bool := x / 2 ^ k % 2 == 1
theorem tmod2 {x : Int} (h : 0 ≤ x) : x.tmod 2 = x % 2 := Int.tmod_eq_emod_of_nonneg h
theorem has_any (x : Int) (k : Nat) (w : World) (hx : 0 ≤ x) (hk' : k < 64) :
    Calls Try.prog 88 #[.int .u64 x, .int .i64 k] w fun e w' => e = .returned (.bool (hasI x k)) ∧ w = w' := by
  have hd : 0 ≤ x / 2 ^ k := Int.ediv_nonneg hx (Int.pow_nonneg (by omega))
  go_enter Try.func88, Try.ntmps88
  go_wp2_with fail
  go_ret
  exact ⟨by simp [hasI, tmod2 hd], rfl⟩

/-- Whether no bit of the first is none of the second. -/
def noneOut (x y : Int) (k : Nat) : Prop := ∀ j, j < k → (hasI x j && !hasI y j) = false
/-- What holds at the head of a round. -/
def BelowRel (x y : Int) (w : World) (i : Value) (wr : World) : Prop := ∃ k : Nat, k ≤ 64 ∧ i = .int .i64 k ∧ noneOut x y k ∧ w = wr
def refBelowI (x y : Int) : Bool := (List.range 64).all fun j => !(hasI x j && !hasI y j)

set_option maxHeartbeats 800000 in
theorem refBelow_any (x y : Int) (w : World) (hx : 0 ≤ x) (hy : 0 ≤ y) :
    Calls Try.prog 55 #[.int .u64 x, .int .u64 y] w fun e w' => e = .returned (.bool (refBelowI x y)) ∧ w = w' := by
  go_enter Try.func55, Try.ntmps55
  go_wp2_with fail
  go_loopw [5] (fun i wr => BelowRel x y w i wr) (fun i _ => 64 - (intOf i).toNat)
  case atStart => exact ⟨0, by omega, rfl, fun j hj => absurd hj (by omega), rfl⟩
  case round =>
    obtain ⟨k, hk, rfl, hno, rfl⟩ := hrel
    have HN := Lib.hid hno
    clear hno
    by_cases hlt : k < 64
    · have hs : ∀ z : Bool, (hasI x k && !hasI y k) = z → z = false → noneOut x y (k + 1) := fun z hz hf j hj => by
        rcases Nat.lt_or_ge j k with h | h
        · exact HN.out j h
        · obtain rfl : j = k := by omega
          rw [hz, hf]
      have HS := Lib.hid hs
      clear hs
      by_cases h1 : hasI x k = true
      · by_cases h2 : hasI y k = true
        · go_wp2_with (first | (go_at_call_of 88 (Value.int IntKind.u64 x); refine (has_any x k _ hx hlt).mono ?_; rintro e w' ⟨rfl, rfl⟩) | (go_at_call_of 88 (Value.int IntKind.u64 y); refine (has_any y k _ hy hlt).mono ?_; rintro e w' ⟨rfl, rfl⟩))
          exact ⟨⟨k + 1, by omega, by go_num, HS.out _ (by rw [h1, h2]; rfl) rfl, rfl⟩, by simp [intOf]; omega⟩
        · have h2' : hasI y k = false := by simpa using h2
          clear h2
          go_wp2_with (first | (go_at_call_of 88 (Value.int IntKind.u64 x); refine (has_any x k _ hx hlt).mono ?_; rintro e w' ⟨rfl, rfl⟩) | (go_at_call_of 88 (Value.int IntKind.u64 y); refine (has_any y k _ hy hlt).mono ?_; rintro e w' ⟨rfl, rfl⟩))
          go_ret
          refine ⟨?_, rfl⟩
          have : refBelowI x y = false := by
            unfold refBelowI
            rw [List.all_eq_false]
            exact ⟨k, by simpa using hlt, by rw [h1, h2']; decide⟩
          rw [this]; rfl
      · have h1' : hasI x k = false := by simpa using h1
        clear h1
        go_wp2_with (first | (go_at_call_of 88 (Value.int IntKind.u64 x); refine (has_any x k _ hx hlt).mono ?_; rintro e w' ⟨rfl, rfl⟩) | (go_at_call_of 88 (Value.int IntKind.u64 y); refine (has_any y k _ hy hlt).mono ?_; rintro e w' ⟨rfl, rfl⟩))
        exact ⟨⟨k + 1, by omega, by go_num, HS.out _ (by rw [h1']; rfl) rfl, rfl⟩, by simp [intOf]; omega⟩
    · go_wp2_with fail
      go_ret
      refine ⟨?_, rfl⟩
      have : refBelowI x y = true := by
        unfold refBelowI
        rw [List.all_eq_true]
        intro j hj
        rw [HN.out j (by have : j < 64 := by simpa using hj
                         omega)]
        rfl
      rw [this]; rfl
def U (x : Int) : Prop := 0 ≤ x ∧ x ≤ 18446744073709551615
theorem has_bit (X : BitVec 64) (k : Nat) : hasI (X.toNat : Int) k = X.getLsbD k := by
  unfold hasI
  have e : ((X.toNat : Int) / 2 ^ k % 2) = ((X.toNat / 2 ^ k % 2 : Nat) : Int) := by
    rw [Int.natCast_emod, Int.natCast_ediv, Int.natCast_pow]; rfl
  rw [e, BitVec.getLsbD, Nat.testBit_eq_decide_div_mod_eq, Bool.eq_iff_iff]
  simp only [beq_iff_eq, decide_eq_true_eq]
  omega
theorem refBelow_bits (X Y : BitVec 64) : refBelowI (X.toNat : Int) (Y.toNat : Int) = decide (X &&& ~~~Y = 0#64) := by
  unfold refBelowI
  rw [Bool.eq_iff_iff]
  simp only [List.all_eq_true, List.mem_range, has_bit, decide_eq_true_eq]
  constructor
  · intro h
    apply BitVec.eq_of_getLsbD_eq
    intro i hi
    have := h i hi
    simp only [BitVec.getLsbD_and, BitVec.getLsbD_not, hi, decide_true, Bool.true_and, BitVec.getLsbD_zero]
    revert this
    cases X.getLsbD i <;> cases Y.getLsbD i <;> simp
  · intro h i hi
    have := congrArg (fun z : BitVec 64 => z.getLsbD i) h
    simp only [BitVec.getLsbD_and, BitVec.getLsbD_not, hi, decide_true, Bool.true_and, BitVec.getLsbD_zero] at this
    revert this
    cases X.getLsbD i <;> cases Y.getLsbD i <;> simp
end Go.Proofs.Ytcfomhnfhalmaaa
end

section
set_option linter.unusedVariables false
set_option linter.unusedSimpArgs false
set_option maxRecDepth 100000
namespace Go.Proofs.Ytcfomhnfhalmaaa
open Go.RowKit

/-- A label, however it is told. -/
def labA : AV → Option (Bool × BitVec 64 × List Bool)
  | .int .u64 l x => some (l, BitVec.ofInt 64 x, [decide (0 ≤ x ∧ x ≤ 18446744073709551615)])
  | .bv .u64 a => some (false, a, [])
  | _ => none
theorem labA_rel {R : Rws} {ρ : Nums} {x : AV} {l : Bool} {a : BitVec 64} {cs : List Bool} {V : Value} (h : labA x = some (l, a, cs)) (hcs : ∀ c ∈ cs, c = true) (hr : Rel R ρ x V) : V = .int .u64 (a.toNat : Int) := by
  unfold labA at h
  split at h
  · rename_i l' x
    cases h
    cases hr
    have h0 := of_decide_eq_true (hcs _ (List.mem_singleton.2 rfl))
    congr 1
    rw [BitVec.toNat_ofInt]
    have h1 := h0.1; have h2 := h0.2
    simp only [Nat.reducePow]; omega
  · cases h; cases hr; rfl
  · cases h
def belowB (a b : BitVec 64) : Bool := decide (a &&& ~~~b = 0#64)
def ctrBelow : CtrF
  | [x, y], _ => match labA x, labA y with
    | some (l, a, cs), some (m, b, ds) => some (.bool (l && m) (belowB a b), cs ++ ds)
    | _, _ => none
  | _, _ => none
theorem ctrBelow_ok {R : Rws} : Good Try.prog R 55 ctrBelow := by
  refine ⟨enters_of Try.func55 (by kernel_rfl) rfl, fun args H v cs hv hcs => ?_⟩
  unfold ctrBelow at hv
  split at hv
  · rename_i x y
    split at hv
    · rename_i l a cs1 m b cs2 h1 h2
      cases hv
      refine ⟨_, rfl, fun Hr Args ha _ _ w _ => ?_⟩
      cases ha with | cons a1 ha =>
      cases ha with | cons a2 ha =>
      cases ha
      obtain rfl := labA_rel h1 (fun c hc => hcs c (List.mem_append.2 (.inl hc))) a1
      obtain rfl := labA_rel h2 (fun c hc => hcs c (List.mem_append.2 (.inr hc))) a2
      refine (refBelow_any _ _ w (by omega) (by omega)).mono ?_
      rintro e w' ⟨rfl, rfl⟩
      rw [refBelow_bits]
      exact ⟨rfl, Below.refl _ _⟩
    · cases hv
  · cases hv
noncomputable def tabT : List (Nat × CtrF) := [(81, ctrReach), (55, ctrBelow)]
noncomputable def tabM (R : Rws) : List (Nat × CtmF) := [(35, cloneF 5 cvE R), (49, cloneF 2 ccE R)]
noncomputable def pureS (f : Nat) : Bool := Nat.beq f 22 || Nat.beq f 82 || Nat.beq f 81
noncomputable def genS (f : Nat) : Bool := Nat.beq f 44 || Nat.beq f 68 || Nat.beq f 38 || Nat.beq f 42 || Nat.beq f 72 || Nat.beq f 9 || Nat.beq f 15 || Nat.beq f 12 || Nat.beq f 27 || Nat.beq f 16 || Nat.beq f 35 || Nat.beq f 49 || Nat.beq f 62 || Nat.beq f 26
noncomputable def effS (f : Nat) : Bool := Nat.beq f 36 || Nat.beq f 65 || Nat.beq f 11 || Nat.beq f 13 || Nat.beq f 29 || Nat.beq f 28 || Nat.beq f 33 || Nat.beq f 17 || Nat.beq f 19 || Nat.beq f 50
/-- g: are numbers reckoned at once? -/
noncomputable def EG (R : Rws) (g : Bool) (T : List (Nat × CtrF)) (M : List (Nat × CtmF)) : Env := ⟨Try.prog, eqsK Try.prog, R, lookF (T ++ tabT), lookCm (M ++ tabM R), pureS, fun f => (g && Nat.beq f 1000003) || genS f, effS⟩
theorem tabM_ok {R : Rws} (hR : RwOK R) : ∀ p ∈ tabM R, GoodM Try.prog R p.1 p.2 := fun p hp => by
  unfold tabM at hp
  rcases List.mem_cons.1 hp with rfl | hp
  · exact ⟨enters_of Try.func35 (by kernel_rfl) rfl, fun args H wr v H' cs h1 h2 Hr w Args h3 h4 h5 h6 => cvany hR args H wr v H' cs h1 h2 Hr w Args h3 h4 h5 h6⟩
  · rw [List.mem_singleton.1 hp]
    exact ⟨enters_of Try.func49 (by kernel_rfl) rfl, fun args H wr v H' cs h1 h2 Hr w Args h3 h4 h5 h6 => ccany hR args H wr v H' cs h1 h2 Hr w Args h3 h4 h5 h6⟩
theorem EG_ok {R : Rws} (hR : RwOK R) (g : Bool) {T : List (Nat × CtrF)} {M : List (Nat × CtmF)} (hT : ∀ p ∈ T, Good Try.prog R p.1 p.2) (hM : ∀ p ∈ M, GoodM Try.prog R p.1 p.2) : EnvOK (EG R g T M) :=
  ⟨eqsK_ok, hR, fun f F h => lookF_ok (fun p hp => by
    rcases List.mem_append.1 hp with hp | hp
    · exact hT p hp
    · rcases List.mem_cons.1 hp with rfl | hp
      · exact ctrReach_ok
      · rw [List.mem_singleton.1 hp]; exact ctrBelow_ok) f F h, fun f F h => lookCm_ok (fun p hp => by
    rcases List.mem_append.1 hp with hp | hp
    · exact hM p hp
    · exact tabM_ok hR p hp) f F h, rfl⟩
theorem allE_same : ∀ l : List Bool, AllE (l.map fun b => (b, b))
  | [] => allE_nil
  | _ :: l => allE_cons rfl (allE_same l)
structure V5 where
  a : BitVec 64
  b : BitVec 64
  c : BitVec 64
  d : BitVec 64
  l : BitVec 64
def v5 (x : V5) : List AV := [.bv .u64 x.a, .bv .u64 x.b, .bv .u64 x.c, .bv .u64 x.d, .bv .u64 x.l]
end Go.Proofs.Ytcfomhnfhalmaaa
end

section
set_option linter.unusedVariables false
set_option linter.unusedSimpArgs false
set_option maxRecDepth 100000
namespace Go.Proofs.Ytcfomhnfhalmaaa
open Go.RowKit

mutual
/-- The labels that lie in a value. -/
def refsA : AV → List Nat
  | .ptr l _ => [l]
  | .slice l _ _ _ => [l]
  | .func _ cs => refsL cs
  | .agg cs => refsL cs
  | .tuple cs => refsL cs
  | .gsl _ l _ _ => [l]
  | .gptr l _ _ => [l]
  | .mp l => [l]
  | .meth _ fs cs => refsL fs ++ refsL cs
  | .bool _ _ => []
  | .int _ _ _ => []
  | .bv _ _ => []
  | .raw _ => []
  | .rsl _ _ _ => []
  | .rptr _ _ _ => []
  | .xsl _ _ _ => []
  | .junk => []
  | .str _ => []
def refsL : List AV → List Nat
  | [] => []
  | c :: r => refsA c ++ refsL r
end
def refsI : AIt → List Nat
  | .cells cs _ => refsL cs
  | .row _ _ _ _ (some o) => [o]
  | _ => []
/-- Labels that are reached, each once, in the order in which they are met. -/
def meetN (H : Mem) : Nat → List Nat → List Nat → List Nat
  | 0, _, acc => acc
  | _ + 1, [], acc => acc
  | k + 1, l :: r, acc => bif memN l acc then meetN H k r acc else meetN H k (r ++ ((H[l]?).map refsI).getD []) (acc ++ [l])
def allSome : List (Option AIt) → Option Mem
  | [] => some []
  | some a :: r => (allSome r).map (a :: ·)
  | none :: _ => none
theorem allSome_at : ∀ {l : List (Option AIt)} {m : Mem}, allSome l = some m → l = m.map some
  | [], m, h => by cases h; rfl
  | some a :: r, m, h => by
    unfold allSome at h
    rw [Option.map_eq_some_iff] at h
    obtain ⟨q, h1, rfl⟩ := h
    rw [List.map_cons, ← allSome_at h1]
  | none :: _, m, h => by cases h
abbrev SmF := List AV → Mem → Option (AV × Mem × List Bool)
/-- What is known of a function on the blocks that it reaches, said of any memory. -/
def frF (S : SmF) : CtmF := fun args H wr =>
  let sel := meetN H 200 (refsL args) []
  match renL sel args, allSome (sel.map fun l => (H[l]?).bind (renI sel)) with
  | some a0, some H0 => match S a0 H0 with
    | some (v0, H0', cs) => bif nodupN sel && (liveB H0 && sel.all wr) then some (mapA (sigF sel H.length) v0, frmH sel (sigF sel H.length) H0' H, cs) else none
    | none => none
  | _, _ => none
/-- Good on small memories. -/
def GoodS (P : Program) (R : Rws) (f : FuncId) (S : SmF) : Prop := Enters P f ∧ ∀ args H v H' cs, S args H = some (v, H', cs) → (∀ c ∈ cs, c = true) → ∀ Hr w Args, RelL R (nums Hr) args Args → RelB R (nums Hr) H Hr → Apart H Hr → OwnK R H Hr w →
    Calls P f Args.toArray w fun e w' => ∃ V Hr', e = .returned V ∧ Rel R (nums Hr') v V ∧ RelB R (nums Hr') H' Hr' ∧ Apart H' Hr' ∧ OwnK R H' Hr' w' ∧ Stp allW Hr w Hr' w'
theorem frF_ok {P : Program} {R : Rws} {f : FuncId} {S : SmF} (h : GoodS P R f S) : GoodM P R f (frF S) := by
  refine ⟨h.1, fun args H wr v H' cs hF hcs Hr w Args hA hB hn hO => ?_⟩
  unfold frF at hF
  simp only at hF
  generalize hsel : meetN H 200 (refsL args) [] = sel at hF
  split at hF
  · rename_i a0 H0 h1 h2
    split at hF
    · rename_i v0 H0' cs0 h3
      cases hb : (nodupN sel && (liveB H0 && sel.all wr)) <;> simp only [hb, cond_true, cond_false] at hF
      · cases hF
      simp only [Bool.and_eq_true] at hb
      obtain ⟨b1, b2, b3⟩ := hb
      cases hF
      have h4 := allSome_at h2
      refine frame (wr0 := allW) (by have := congrArg List.length h4; simpa using this) b1 (h.2 _ _ _ _ _ h3 hcs) (fun i l hi => ?_) h1 b2 (fun i l hi _ => List.all_eq_true.1 b3 l (List.mem_of_getElem? hi)) hA hB hn hO
      have h5 := congrArg (fun z : List (Option AIt) => z[i]?) h4
      simp only [List.getElem?_map, hi, Option.map_some] at h5
      cases hj : H0[i]? with
      | none => rw [hj] at h5; cases h5
      | some jt =>
        rw [hj, Option.map_some, Option.some.injEq, Option.bind_eq_some_iff] at h5
        obtain ⟨it, h6, h7⟩ := h5
        exact ⟨it, jt, h6, rfl, h7⟩
    · cases hF
  · cases hF
/-- The same, of functions that write nothing: they may be called in a head. -/
def frR (S : SmF) : CtmF := fun args H _ =>
  let sel := meetN H 200 (refsL args) []
  match renL sel args, allSome (sel.map fun l => (H[l]?).bind (renI sel)) with
  | some a0, some H0 => match S a0 H0 with
    | some (v0, H0', cs) => bif nodupN sel && liveB H0 then some (mapA (sigF sel H.length) v0, frmH sel (sigF sel H.length) H0' H, cs) else none
    | none => none
  | _, _ => none
def newW (n : Nat) : Nat → Bool := fun j => Nat.ble n j
def GoodR (P : Program) (R : Rws) (f : FuncId) (S : SmF) : Prop := Enters P f ∧ ∀ args H v H' cs, S args H = some (v, H', cs) → (∀ c ∈ cs, c = true) → ∀ Hr w Args, RelL R (nums Hr) args Args → RelB R (nums Hr) H Hr → Apart H Hr → OwnK R H Hr w →
    Calls P f Args.toArray w fun e w' => ∃ V Hr', e = .returned V ∧ Rel R (nums Hr') v V ∧ RelB R (nums Hr') H' Hr' ∧ Apart H' Hr' ∧ OwnK R H' Hr' w' ∧ Stp (newW H.length) Hr w Hr' w'
theorem frR_ok {P : Program} {R : Rws} {f : FuncId} {S : SmF} (h : GoodR P R f S) : GoodM P R f (frR S) := by
  refine ⟨h.1, fun args H wr v H' cs hF hcs Hr w Args hA hB hn hO => ?_⟩
  unfold frR at hF
  simp only at hF
  generalize hsel : meetN H 200 (refsL args) [] = sel at hF
  split at hF
  · rename_i a0 H0 h1 h2
    split at hF
    · rename_i v0 H0' cs0 h3
      cases hb : (nodupN sel && liveB H0) <;> simp only [hb, cond_true, cond_false] at hF
      · cases hF
      simp only [Bool.and_eq_true] at hb
      obtain ⟨b1, b2⟩ := hb
      cases hF
      have h4 := allSome_at h2
      have hlen : sel.length = H0.length := by have := congrArg List.length h4; simpa using this
      refine frame (wr0 := newW H0.length) hlen b1 (h.2 _ _ _ _ _ h3 hcs) (fun i l hi => ?_) h1 b2 (fun i l hi hw => ?_) hA hB hn hO
      · have h5 := congrArg (fun z : List (Option AIt) => z[i]?) h4
        simp only [List.getElem?_map, hi, Option.map_some] at h5
        cases hj : H0[i]? with
        | none => rw [hj] at h5; cases h5
        | some jt =>
          rw [hj, Option.map_some, Option.some.injEq, Option.bind_eq_some_iff] at h5
          obtain ⟨it, h6, h7⟩ := h5
          exact ⟨it, jt, h6, rfl, h7⟩
      · have := (List.getElem?_eq_some_iff.1 hi).1
        have := Nat.le_of_ble_eq_true hw
        omega
    · cases hF
  · cases hF
end Go.Proofs.Ytcfomhnfhalmaaa
end

section
set_option linter.unusedVariables false
set_option linter.unusedSimpArgs false
set_option maxRecDepth 100000
namespace Go.Proofs.Ytcfomhnfhalmaaa
open Go.RowKit

/-- What is said by the first is said by the second too. -/
def wkA (x y : AV) : Prop := ∀ (R : Rws) (ρ : Nums) (V : Value), Rel R ρ x V → Rel R ρ y V
theorem wkA.refl (x : AV) : wkA x x := fun _ _ _ h => h
theorem wkA.trans {x y z : AV} (h : wkA x y) (k : wkA y z) : wkA x z := fun R ρ V q => k R ρ V (h R ρ V q)
theorem wkA_any {k : Cp} {l o n : Nat} : wkA (.gsl k l o n) (.gsl .any l o n) := fun R ρ V h => by
  cases h with | gsl hj hn ha hk hm => exact .gsl hj hn ha trivial hm
theorem wkA_int {k : IntKind} {l l' : Bool} {x : Int} : wkA (.int k l x) (.int k l' x) := fun R ρ V h => by cases h; exact .int
theorem wkA_intE {k : IntKind} {l l' : Bool} {x y : Int} (e : x = y) : wkA (.int k l x) (.int k l' y) := fun R ρ V h => by subst e; cases h; exact .int
theorem wkA_bool {l l' b : Bool} : wkA (.bool l b) (.bool l' b) := fun R ρ V h => by cases h; exact .bool
theorem wkA_boolE {l l' b c : Bool} (e : b = c) : wkA (.bool l b) (.bool l' c) := fun R ρ V h => by subst e; cases h; exact .bool
theorem wkA_eq {x y : AV} (e : x = y) : wkA x y := fun R ρ V h => e ▸ h
def wkL : List AV → List AV → Prop
  | [], [] => True
  | a :: r, b :: q => wkA a b ∧ wkL r q
  | _, _ => False
theorem wkL.refl : ∀ l : List AV, wkL l l
  | [] => trivial
  | a :: r => ⟨wkA.refl a, wkL.refl r⟩
theorem wkL.rel {R : Rws} {ρ : Nums} : ∀ {a b : List AV} {V : List Value}, wkL a b → RelL R ρ a V → RelL R ρ b V
  | [], [], _, _, h => h
  | _ :: _, _ :: _, _, h, .cons h1 h2 => .cons (h.1 R ρ _ h1) (wkL.rel h.2 h2)
theorem wkA_tuple {a b : List AV} (h : wkL a b) : wkA (.tuple a) (.tuple b) := fun R ρ V q => by
  cases q with | tuple q => exact .tuple (h.rel q)
/-- Rows may be told shorter and in other words, cells in other words. -/
def wkI : AIt → AIt → Prop
  | _, .gone => True
  | .cells cs t, .cells cs' t' => t = t' ∧ wkL cs cs'
  | .row n s F t own, .row n' s' F' t' own' => n' ≤ n ∧ s = s' ∧ t = t' ∧ own = own' ∧ ∀ i, i < n' → AV.vals? (F i) = AV.vals? (F' i)
  | a, b => a = b
theorem wkI.refl : ∀ a : AIt, wkI a a
  | .cells _ _ => ⟨rfl, wkL.refl _⟩
  | .row _ _ _ _ _ => ⟨Nat.le_refl _, rfl, rfl, rfl, fun _ _ => rfl⟩
  | .map _ => rfl
  | .gone => trivial
theorem wkI_row {n n' s : Nat} {F F' : Nat → List AV} {t : TypeId} {own : Option Nat} (hn : n' ≤ n) (h : ∀ i, i < n' → F i = F' i) : wkI (.row n s F t own) (.row n' s F' t own) := ⟨hn, rfl, rfl, rfl, fun i hi => by rw [h i hi]⟩
theorem wkI.rel {R : Rws} {ρ : Nums} {a b : AIt} {p : RBlk} (h : wkI a b) (hr : RelI R ρ a p) : RelI R ρ b p := by
  unfold wkI at h
  split at h
  · exact .gone
  · obtain ⟨rfl, h⟩ := h
    cases hr with | cells h1 h2 => exact .cells (h.rel h1) h2
  · obtain ⟨hn, rfl, rfl, rfl, h⟩ := h
    cases hr with
    | row a1 c d e f => exact .row (fun i hi => by obtain ⟨U, u1, u2⟩ := a1 i (by omega); exact ⟨U, by rw [← h i hi]; exact u1, u2⟩) c (by omega) e f
    | row0 hp => obtain rfl := Nat.le_zero.1 hn; exact .row0 hp
  · subst h; exact hr
theorem wkI.live {a b : AIt} (h : wkI a b) (hb : b.live = true) : a.live = true := by
  unfold wkI at h
  split at h
  · cases hb
  · rfl
  · obtain ⟨hn, rfl, rfl, rfl, h⟩ := h
    rename_i own _ _ _; cases own <;> exact hb
  · subst h; exact hb
theorem wkI.owner {a b : AIt} (h : wkI a b) (hb : b.live = true) (l : Nat) : b.owner l = a.owner l := by
  unfold wkI at h
  split at h
  · cases hb
  · rfl
  · obtain ⟨hn, rfl, rfl, rfl, h⟩ := h
    cases ‹Option Nat› <;> rfl
  · subst h; rfl
def wkM : Mem → Mem → Prop
  | [], [] => True
  | a :: r, b :: q => wkI a b ∧ wkM r q
  | _, _ => False
theorem wkM.refl : ∀ H : Mem, wkM H H
  | [] => trivial
  | a :: r => ⟨wkI.refl a, wkM.refl r⟩
theorem wkM.len : ∀ {H G : Mem}, wkM H G → H.length = G.length
  | [], [], _ => rfl
  | _ :: _, _ :: _, h => by rw [List.length_cons, List.length_cons, wkM.len h.2]
theorem wkM.at : ∀ {H G : Mem}, wkM H G → ∀ (l : Nat) b, G[l]? = some b → ∃ a, H[l]? = some a ∧ wkI a b
  | [], [], _, l, b, h => by simp at h
  | a :: r, b :: q, h, 0, c, hc => by simp at hc; subst hc; exact ⟨a, rfl, h.1⟩
  | a :: r, b :: q, h, l + 1, c, hc => by
    obtain ⟨x, h1, h2⟩ := wkM.at h.2 l c (by simpa using hc)
    exact ⟨x, by simpa using h1, h2⟩
theorem wkM.mem {R : Rws} {H G : Mem} {Hr : List RBlk} (h : wkM H G) (hB : RelB R (nums Hr) H Hr) (hn : Apart H Hr) : RelB R (nums Hr) G Hr ∧ Apart G Hr := by
  refine ⟨⟨hB.1.trans h.len, fun l b p h1 h2 => ?_⟩, fun i j b c p q hne h1 h2 v1 v2 q1 q2 z1 z2 hb => ?_⟩
  · obtain ⟨a, g1, g2⟩ := h.at l b h1
    exact g2.rel (hB.2 l a p g1 h2)
  · obtain ⟨a, g1, g2⟩ := h.at i b h1
    obtain ⟨d, k1, k2⟩ := h.at j c h2
    have := hn i j a d p q hne g1 k1 (g2.live v1) (k2.live v2) q1 q2 z1 z2 hb
    rw [g2.owner v1, k2.owner v2]; exact this
theorem wkM.own {R : Rws} {H G : Mem} {Hr : List RBlk} {w : World} (h : wkM H G) (hO : OwnK R H Hr w) : OwnK R G Hr w := by
  refine ⟨fun l b p h1 h2 hp => ?_, hO.2⟩
  obtain ⟨a, g1, g2⟩ := h.at l b h1
  obtain ⟨k1, k2⟩ := hO.1 l a p g1 h2 hp
  exact ⟨k1, fun hl => k2 (g2.live hl)⟩
def wkV : List (Nat × AV) → List (Nat × AV) → Prop
  | [], [] => True
  | (i, a) :: r, (j, b) :: q => i = j ∧ wkA a b ∧ wkV r q
  | _, _ => False
theorem wkV.refl : ∀ l : List (Nat × AV), wkV l l
  | [] => trivial
  | (_, a) :: r => ⟨rfl, wkA.refl a, wkV.refl r⟩
theorem wkV.look {i : Nat} : ∀ {l m : List (Nat × AV)}, wkV l m → (∃ v u, look i l = some v ∧ look i m = some u ∧ wkA v u) ∨ (look i l = none ∧ look i m = none)
  | [], [], _ => .inr ⟨rfl, rfl⟩
  | (j, a) :: r, (k, b) :: q, h => by
    obtain ⟨rfl, h1, h2⟩ := h
    unfold Proofs.Ytcfomhnfhalmaaa.look
    cases hb : Nat.beq i j <;> simp only [cond_true, cond_false]
    · exact wkV.look h2
    · exact .inl ⟨a, b, rfl, rfl, h1⟩
theorem pat_wk {l m : List (Nat × AV)} {r : Nat → Value} (h : wkV l m) : ∀ n i : Nat, wkL (pat l r i n) (pat m r i n)
  | 0, _ => trivial
  | n + 1, i => by
    unfold pat
    refine ⟨?_, pat_wk h n (i + 1)⟩
    rcases h.look (i := i) with ⟨v, u, h1, h2, h3⟩ | ⟨h1, h2⟩
    · rw [h1, h2]; exact h3
    · rw [h1, h2]; exact wkA.refl _
theorem PatSt.wk {R : Rws} {D : List Deferred} {live live' : List (Nat × AV)} {n : Nat} {H H' : Mem} {ds ds' : List Bool} {wr wr' : Nat → Bool} {a : Act} {Hr : List RBlk} (hP : PatSt R D live n ⟨H, ds, wr⟩ a Hr) (hl : wkV live live') (hm : wkM H H') : PatSt R D live' n ⟨H', ds', wr'⟩ a Hr := by
  obtain ⟨r, vs, e, ht, hB, hA⟩ := hP
  obtain ⟨h1, h2⟩ := hm.mem hB hA
  exact ⟨r, vs, e, (pat_wk hl n 0).rel ht, h1, h2⟩
theorem Bun.wk {R : Rws} {Ds : List Nat} {n0 : Nat} {w0 : World} {H H' : Mem} {Hr : List RBlk} {w : World} (h : Bun R Ds n0 w0 H Hr w) (hm : wkM H H') : Bun R Ds n0 w0 H' Hr w := ⟨hm.own h.own, h.marks, h.nodup, h.fresh, h.below, h.size⟩
section
variable {E : Env} (hE : EnvOK E) {Ds : List Nat} {n0 : Nat} {w0 : World}
include hE
/-- A piece of code behind which some labels are kept, told in a weaker way. -/
theorem ev_codeW (nf : Nat) (sel : List Nat) (e0 : AExit) {c : Code} {live live' live'' : List (Nat × AV)} {n : Nat} {H H' H'' : Mem} {ds ds' : List Bool} (hnd : nodupN sel = true) (h : ∀ r, Is (evT E nf (.code c) ⟨pat live r 0 n, ⟨H, ds, allW⟩⟩ (selK sel e0 live' n H'))) (hl : wkV live' live'') (hm : wkM H' H'')
    {a : Act} {Hr : List RBlk} {w : World} {Q : Exit → Act → World → Prop} (hP : PatSt E.rows (Ds.map markD) live n ⟨H, ds', allW⟩ a Hr) (hB : Bun E.rows Ds n0 w0 H Hr w)
    (hk : ∀ a' Hr' w', PatSt E.rows (Ds.map markD) live'' n ⟨H'', [], allW⟩ a' Hr' → Bun E.rows Ds n0 w0 H'' Hr' w' → Q e0.real a' w') : c.wp E.P Q a w :=
  ev_codeS hE nf sel e0 hnd h hP hB fun a' Hr' w' hP' hB' => hk a' Hr' w' (hP'.wk hl hm) (hB'.wk hm)
theorem ev_codeWS (nf : Nat) (sel : List Nat) (e0 : AExit) {c : Code} {live live' live'' : List (Nat × AV)} {n : Nat} {H H' H'' : Mem} {ds ds' : List Bool} {wr wr' : Nat → Bool} (hnd : nodupN sel = true) (hpre : sel.take H.length = List.range H.length) (h : ∀ r, Is (evT E nf (.code c) ⟨pat live r 0 n, ⟨H, ds, wr⟩⟩ (selK sel e0 live' n H'))) (hwl : wkV live' live'') (hwm : wkM H' H'')
    {a : Act} {Hr : List RBlk} {w : World} {Q : Exit → Act → World → Prop} (hP : PatSt E.rows (Ds.map markD) live n ⟨H, ds', wr'⟩ a Hr) (hB : Bun E.rows Ds n0 w0 H Hr w)
    (hk : ∀ a' Hr' w', PatSt E.rows (Ds.map markD) live'' n ⟨H'', [], allW⟩ a' Hr' → Bun E.rows Ds n0 w0 H'' Hr' w' → Stp wr Hr w Hr' w' → Q e0.real a' w') : c.wp E.P Q a w := by
  obtain ⟨r, hR⟩ := hP
  have hl0 : Hr.length = H.length := by obtain ⟨_, _, _, hB0, _⟩ := hR; exact hB0.len
  obtain ⟨e, st', h1, hlo, hs⟩ := ev_sound hE nf (.code c) _ _ (h r).is
  refine wp_mono (hs a Hr w hR hB.own) ?_
  rintro e' a' w' ⟨rfl, Hr', hR', hO', hS⟩
  unfold selK at h1
  simp only [Prod.mk.injEq] at h1
  obtain ⟨he, hn, hl, hH, hd⟩ := h1
  rw [eqE_eq he]
  have hB' := hB.stp hO' hS
  obtain ⟨vs, rfl, ht, hBl, hnod⟩ := hR'
  have hbl := hBl.len
  have hlen : H'.length = sel.length := by have := congrArg List.length hH; simpa using this.symm
  have hat : ∀ i l : Nat, sel[i]? = some l → ∃ p q : AIt, st'.m.H[l]? = some p ∧ renI sel p = some q ∧ H'[i]? = some q := by
    intro i l hi
    have h2 := congrArg (fun z : List (Option AIt) => z[i]?) hH
    simp only [List.getElem?_map, hi, Option.map_some] at h2
    have hi' : i < H'.length := by rw [hlen]; exact (List.getElem?_eq_some_iff.1 hi).1
    rw [List.getElem?_eq_getElem hi', Option.map_some, Option.some.injEq] at h2
    rw [Option.bind_eq_some_iff] at h2
    obtain ⟨p, h3, h4⟩ := h2
    exact ⟨p, _, h3, h4, List.getElem?_eq_getElem hi'⟩
  have hv : ∀ l ∈ sel, l < Hr'.length := fun l hl => by
    obtain ⟨i, hi, hi'⟩ := List.mem_iff_getElem.1 hl
    obtain ⟨p, q, h3, _, _⟩ := hat i l (by rw [List.getElem?_eq_getElem hi, hi'])
    rw [hbl]; exact (List.getElem?_eq_some_iff.1 h3).1
  have hρ := nums_pick (Hr := Hr') hv
  obtain ⟨tl', t1, t2, t3⟩ := lives_ren hρ ht hl
  have hpk := pick_get (Hr := Hr') hv
  have hto : ∀ (i : Nat) jt q, H'[i]? = some jt → (pick sel Hr')[i]? = some q → ∃ l it, sel[i]? = some l ∧ st'.m.H[l]? = some it ∧ renI sel it = some jt ∧ Hr'[l]? = some q := fun i jt q h1 h2 => by
    have hi2 : i < sel.length := by rw [← hlen]; exact (List.getElem?_eq_some_iff.1 h1).1
    obtain ⟨p, q', h3, h4, h5⟩ := hat i sel[i] (List.getElem?_eq_getElem hi2)
    rw [h1] at h5; cases h5
    exact ⟨sel[i], p, List.getElem?_eq_getElem hi2, h3, h4, (hpk i _ (List.getElem?_eq_getElem hi2)).symm.trans h2⟩
  have hBl' : RelB E.rows (nums (pick sel Hr')) H' (pick sel Hr') := by
    refine ⟨by rw [pick_len hv, hlen], fun i jt q h1 h2 => ?_⟩
    obtain ⟨l, it, e1, e2, e3, e4⟩ := hto i jt q h1 h2
    exact RelI.ren hρ e3 (hBl.2 l it q e2 e4)
  have hnod' : Apart H' (pick sel Hr') := by
    have hsn := nodupN_spec hnd
    intro i j it1 jt1 p1 p2 hne h1 h2 l1 l2 q1 q2 z1 z2 hb
    obtain ⟨l, it, e1, e2, e3, e4⟩ := hto i it1 p1 h1 q1
    obtain ⟨m, jt, f1, f2, f3, f4⟩ := hto j jt1 p2 h2 q2
    have hlm : l ≠ m := fun e => by
      subst e
      have hi := (List.getElem?_eq_some_iff.1 e1).1
      exact hne ((List.getElem?_inj hi hsn).1 (e1.trans f1.symm))
    have ho := hnod l m it jt p1 p2 hlm e2 f2 (by rw [← renI_live e3]; exact l1) (by rw [← renI_live f3]; exact l2) e4 f4 z1 z2 hb
    have g1 := renI_owner e3 e1
    have g2 := renI_owner f3 f1
    rw [ho] at g1
    exact (List.getElem?_inj (List.getElem?_eq_some_iff.1 g1).1 hsn).1 (g1.trans g2.symm)
  have hP' : PatSt E.rows (Ds.map markD) live' n ⟨H', [], allW⟩ ⟨vs.toArray, Ds.map markD⟩ (pick sel Hr') :=
    patSt_of (live := live) (st := ⟨tl', ⟨H', [], allW⟩⟩) ⟨vs, rfl, t1, hBl', hnod'⟩ (by rw [t2]; exact hn) t3
  have hsub : ∀ b, b ∈ bs (nums (pick sel Hr')) → b ∈ bs (nums Hr') := fun b hb => by
    rw [mem_bs] at hb ⊢
    obtain ⟨q, hq, e⟩ := hb
    exact ⟨q, nums_pick_mem hq, e⟩
  have hBf : Bun E.rows Ds n0 w0 H' (pick sel Hr') w' := by
   refine ⟨⟨fun i jt q h1 h2 hq => ?_, hB'.own.2.sub hsub⟩, fun D hD => ?_, hB'.nodup, fun b hb hbp => hB'.fresh b (nums_pick_mem hb) hbp, hB'.below, hB'.size⟩
   · obtain ⟨l, it, e1, e2, e3, e4⟩ := hto i jt q h1 h2
     obtain ⟨g1, g2⟩ := hB'.own.1 l it q e2 e4 hq
     exact ⟨g1, fun hlv => g2 (by rw [← renI_live e3]; exact hlv)⟩
   · obtain ⟨q1, q2, q3⟩ := hB'.marks D hD
     exact ⟨q1, fun hm => q2 (hsub _ hm), q3⟩
  exact hk _ _ w' (hP'.wk hwl hwm) (hBf.wk hwm) (stp_sel hnd hv (by rw [hl0]; exact hpre) hS)
omit hE in
theorem ev_loopI {c : Code} (hc : isLp c = true) (I : List RBlk → World → Prop) (N : Nat) (e0 : AExit) (he0 : eqE e0 .normal = false) {n : Nat} (live : Nat → List (Nat × AV)) (H : Nat → Mem) {live' : List (Nat × AV)} {H' : Mem} {Q : Exit → Act → World → Prop}
    (hstep : ∀ k, k < N → ∀ a Hr w (Q' : Exit → Act → World → Prop), PatSt E.rows (Ds.map markD) (live k) n ⟨H k, [], allW⟩ a Hr → Bun E.rows Ds n0 w0 (H k) Hr w → I Hr w → (∀ a' Hr' w', PatSt E.rows (Ds.map markD) (live (k + 1)) n ⟨H (k + 1), [], allW⟩ a' Hr' → Bun E.rows Ds n0 w0 (H (k + 1)) Hr' w' → I Hr' w' → Q' .normal a' w') → (lpB c).wp E.P Q' a w)
    (hlast : ∀ a Hr w (Q' : Exit → Act → World → Prop), PatSt E.rows (Ds.map markD) (live N) n ⟨H N, [], allW⟩ a Hr → Bun E.rows Ds n0 w0 (H N) Hr w → I Hr w → (∀ a' Hr' w', PatSt E.rows (Ds.map markD) live' n ⟨H', [], allW⟩ a' Hr' → Bun E.rows Ds n0 w0 H' Hr' w' → I Hr' w' → Q' e0.real a' w') → (lpB c).wp E.P Q' a w)
    {a : Act} {Hr : List RBlk} {w : World} (hP : PatSt E.rows (Ds.map markD) (live 0) n ⟨H 0, [], allW⟩ a Hr) (hB : Bun E.rows Ds n0 w0 (H 0) Hr w) (hI : I Hr w)
    (hk : ∀ a' Hr' w', PatSt E.rows (Ds.map markD) live' n ⟨H', [], allW⟩ a' Hr' → Bun E.rows Ds n0 w0 H' Hr' w' → I Hr' w' → Q e0.real a' w') : c.wp E.P Q a w := by
  refine wp_lp (N + 1) hc ?_
  have key : ∀ j k, k + j = N → ∀ a Hr w, PatSt E.rows (Ds.map markD) (live k) n ⟨H k, [], allW⟩ a Hr → Bun E.rows Ds n0 w0 (H k) Hr w → I Hr w → Code.rounds E.P (lpB c) Q (j + 1) a w := by
    intro j
    induction j with
    | zero =>
      intro k hkN a Hr w hP hB hI
      obtain rfl : k = N := by omega
      rw [rounds_succ]
      refine hlast a Hr w _ hP hB hI fun a' Hr' w' hP' hB' hI' => ?_
      have := hk a' Hr' w' hP' hB' hI'
      cases e0 <;> first | exact this | (cases he0)
    | succ j ih =>
      intro k hkN a Hr w hP hB hI
      rw [rounds_succ]
      exact hstep k (by omega) a Hr w _ hP hB hI fun a' Hr' w' hP' hB' hI' => ih (k + 1) (by omega) a' Hr' w' hP' hB' hI'
  exact key N 0 (by omega) a Hr w hP hB hI
end
theorem ev_endR {E : Env} (hE : EnvOK E) {live : List (Nat × AV)} {n n0 : Nat} {H : Mem} {ds : List Bool} {wr : Nat → Bool} {vs : List AV} {fn : Func} (h : ∀ rs, resA E.P E.rows H (pat live rs 0 n) fn.results.toList = some vs) {a : Act} {Hr : List RBlk} {w w0 : World} (hP : PatSt E.rows ([].map markD) live n ⟨H, ds, wr⟩ a Hr) (hB : Bun E.rows [] n0 w0 H Hr w) {Q : Ending → World → Prop}
    (hk : ∀ V, Rel E.rows (nums Hr) (oneA vs) V → Q (.returned V) w) {e : Exit} (he : e = .ret ∨ e = .normal) : bodyPostM Fence.wide 0 E.P fn Q e a w := by
  obtain ⟨rs, hR⟩ := hP
  obtain ⟨V, hv, hres⟩ := results_sound hE.rows hR (h rs)
  have hd : a.defers = [] := by obtain ⟨tv, rfl, _⟩ := hR; rfl
  have := leave_marks (P := E.P) (fn := fn) (tmps := a.tmps) (Q := Q) [] w (by simp) (by simp) ⟨V, hres _ hB.own, hk V hv⟩
  rw [List.map_nil, ← hd] at this
  rcases he with rfl | rfl <;> exact this
/-- A call, behind which some labels are kept, told in a weaker way. -/
theorem ev_callW {E : Env} (hE : EnvOK E) (nf : Nat) {f : FuncId} {args : List AV} {H H1 H2 : Mem} {v1 v2 : AV} {ds : List Bool} {wr : Nat → Bool} (sel : List Nat) (hnd : nodupN sel = true) (hpre : sel.take H.length = List.range H.length) (hlen : sel.length = H1.length)
    (h : Is (evCall E nf f args ⟨H, ds, wr⟩ (fun v m => (renA sel v, sel.map fun l => (m.H[l]?).bind (renI sel)) = (some v1, H1.map some)))) (hv : wkA v1 v2) (hm : wkM H1 H2) {Hr : List RBlk} {w : World} {Args : List Value} (hA : RelL E.rows (nums Hr) args Args) (hB : RelB E.rows (nums Hr) H Hr) (hn : Apart H Hr) (hO : OwnK E.rows H Hr w) :
    Calls E.P f Args.toArray w fun e w' => ∃ V Hr', e = .returned V ∧ Rel E.rows (nums Hr') v2 V ∧ RelB E.rows (nums Hr') H2 Hr' ∧ Apart H2 Hr' ∧ OwnK E.rows H2 Hr' w' ∧ Stp wr Hr w Hr' w' := by
  obtain ⟨v, m', hK, hlo, hen, hc⟩ := call_ok hE (ev_sound hE nf) f args _ _ h.is
  obtain ⟨k1, k2⟩ := Prod.mk.injEq .. ▸ hK
  refine (calls_sel sel hnd hpre hB.1 hlen k2 k1 (hc Hr w Args hA hB hn hO)).mono ?_
  rintro e w' ⟨V, Hr', rfl, g1, g2, g3, g4, g5⟩
  obtain ⟨q1, q2⟩ := hm.mem g2 g3
  exact ⟨V, Hr', rfl, hv _ _ _ g1, q1, q2, hm.own g4, g5⟩
end Go.Proofs.Ytcfomhnfhalmaaa
end

section
set_option linter.unusedVariables false
set_option linter.unusedSimpArgs false
set_option maxRecDepth 100000
namespace Go.Proofs.Ytcfomhnfhalmaaa
open Go.RowKit

theorem putR_up {s m o : Nat} {F : Nat → List AV} {vs : List AV} (ho : o + vs.length ≤ s) (hF : (F m).length = s) (j : Nat) : putR s F m o vs j = if j = m then setsA (F j) o vs else F j := by
  rw [putR_eq ho hF]
  show (bif Nat.beq j m then setsA (F j) o vs else F j) = _
  cases h : Nat.beq j m
  · simp [Nat.ne_of_beq_eq_false h]
  · simp [Nat.eq_of_beq_eq_true h]
end Go.Proofs.Ytcfomhnfhalmaaa
end

section
set_option linter.unusedVariables false
set_option linter.unusedSimpArgs false
set_option maxRecDepth 100000
end

section
set_option linter.unusedVariables false
set_option linter.unusedSimpArgs false
set_option maxRecDepth 100000
namespace Go.Proofs.Ytcfomhnfhalmaaa
open Go.RowKit

def v5V (x : V5) : List Value := [.int .u64 (x.a.toNat : Int), .int .u64 (x.b.toNat : Int), .int .u64 (x.c.toNat : Int), .int .u64 (x.d.toNat : Int), .int .u64 (x.l.toNat : Int)]
theorem rel_v5 {R : Rws} {ρ : Nums} (x : V5) : Rel R ρ (.agg (v5 x)) (.agg (v5V x).toArray) := .agg (.cons (.bv rfl) (.cons (.bv rfl) (.cons (.bv rfl) (.cons (.bv rfl) (.cons (.bv rfl) .nil)))))
theorem rel_v5_inv {R : Rws} {ρ : Nums} {x : V5} {V : Value} (h : Rel R ρ (.agg (v5 x)) V) : V = .agg (v5V x).toArray := by
  cases h with | agg h =>
  cases h with | cons a1 h =>
  cases h with | cons a2 h =>
  cases h with | cons a3 h =>
  cases h with | cons a4 h =>
  cases h with | cons a5 h =>
  cases h
  cases a1; cases a2; cases a3; cases a4; cases a5
  rfl
def wordsB (x y : V5) : Bool := x.a == y.a && (x.b == y.b && (x.c == y.c && (x.d == y.d && true)))
def sameB (x y : V5) (up : BitVec 64) : Bool := x.l == y.l && (wordsB x y || !(belowB x.l up))
noncomputable def tsame_r0 (x y : V5) (up : BitVec 64) : AV := AV.bool true true
theorem tsame_0 (x y : V5) (up : BitVec 64) (h : AllE [(V5.l x == V5.l y, true), (false != (V5.a x == V5.a y && (V5.b x == V5.b y && (V5.c x == V5.c y && (V5.d x == V5.d y && true)))), true)]) : Is (evCall (EG noRows false [] []) 60 64 [.agg (v5 x), .agg (v5 y), .bv .u64 up] ⟨[], [true, true], allW⟩ (fun v _ => v = tsame_r0 x y up)) := ev_eq [(V5.l x == V5.l y, true), (false != (V5.a x == V5.a y && (V5.b x == V5.b y && (V5.c x == V5.c y && (V5.d x == V5.d y && true)))), true)] (tsame_r0 x y up) (by kernel_rfl) h
noncomputable def tsame_r1 (x y : V5) (up : BitVec 64) : AV := AV.bool false !V5.l x &&& ~~~(up) == BitVec.ofInt 64 0
theorem tsame_1 (x y : V5) (up : BitVec 64) (h : AllE [(V5.l x == V5.l y, true), (false != (V5.a x == V5.a y && (V5.b x == V5.b y && (V5.c x == V5.c y && (V5.d x == V5.d y && true)))), false)]) : Is (evCall (EG noRows false [] []) 60 64 [.agg (v5 x), .agg (v5 y), .bv .u64 up] ⟨[], [true, false], allW⟩ (fun v _ => v = tsame_r1 x y up)) := ev_eq [(V5.l x == V5.l y, true), (false != (V5.a x == V5.a y && (V5.b x == V5.b y && (V5.c x == V5.c y && (V5.d x == V5.d y && true)))), false)] (tsame_r1 x y up) (by kernel_rfl) h
noncomputable def tsame_r2 (x y : V5) (up : BitVec 64) : AV := AV.bool true false
theorem tsame_2 (x y : V5) (up : BitVec 64) (h : AllE [(V5.l x == V5.l y, false)]) : Is (evCall (EG noRows false [] []) 60 64 [.agg (v5 x), .agg (v5 y), .bv .u64 up] ⟨[], [false], allW⟩ (fun v _ => v = tsame_r2 x y up)) := ev_eq [(V5.l x == V5.l y, false)] (tsame_r2 x y up) (by kernel_rfl) h
theorem tsame_any (x y : V5) (up : BitVec 64)  (w : World) : Calls Try.prog 64 #[.agg (v5V x).toArray, .agg (v5V y).toArray, .int .u64 (up.toNat : Int)] w fun e w' => e = .returned (.bool (sameB x y up)) ∧ Below w.heap.size w w' := by
  rcases h0 : (V5.l x == V5.l y) with _ | _
  · have hV : (tsame_r2 x y up).told? = some (.bool (sameB x y up)) := congrArg some (by show Value.bool _ = Value.bool _; congr 1; unfold sameB wordsB; revert h0; generalize (x.a == y.a && (x.b == y.b && (x.c == y.c && (x.d == y.d && true)))) = q; generalize (x.l == y.l) = p; intro _; cases p <;> cases q <;> first | rfl | contradiction)
    exact ev_callsI (EG_ok rwOK_no false good_nil goodM_nil) 60 (tsame_2 x y up (allE_cons h0 allE_nil)) hV (.cons (rel_v5 x) (.cons (rel_v5 y) (.cons (.bv rfl) .nil))) rfl w
  · rcases h1 : (false != (V5.a x == V5.a y && (V5.b x == V5.b y && (V5.c x == V5.c y && (V5.d x == V5.d y && true))))) with _ | _
    · have hV : (tsame_r1 x y up).told? = some (.bool (sameB x y up)) := congrArg some (by show Value.bool _ = Value.bool _; congr 1; unfold sameB wordsB; revert h0 h1; generalize (x.a == y.a && (x.b == y.b && (x.c == y.c && (x.d == y.d && true)))) = q; generalize (x.l == y.l) = p; intro _ _; cases p <;> cases q <;> first | rfl | contradiction)
      exact ev_callsI (EG_ok rwOK_no false good_nil goodM_nil) 60 (tsame_1 x y up (allE_cons h0 (allE_cons h1 allE_nil))) hV (.cons (rel_v5 x) (.cons (rel_v5 y) (.cons (.bv rfl) .nil))) rfl w
    · have hV : (tsame_r0 x y up).told? = some (.bool (sameB x y up)) := congrArg some (by show Value.bool _ = Value.bool _; congr 1; unfold sameB wordsB; revert h0 h1; generalize (x.a == y.a && (x.b == y.b && (x.c == y.c && (x.d == y.d && true)))) = q; generalize (x.l == y.l) = p; intro _ _; cases p <;> cases q <;> first | rfl | contradiction)
      exact ev_callsI (EG_ok rwOK_no false good_nil goodM_nil) 60 (tsame_0 x y up (allE_cons h0 (allE_cons h1 allE_nil))) hV (.cons (rel_v5 x) (.cons (rel_v5 y) (.cons (.bv rfl) .nil))) rfl w
noncomputable def rsame_r0 (x y : V5) (up : BitVec 64) : AV := AV.bool true true
theorem rsame_0 (x y : V5) (up : BitVec 64) (h : AllE [(V5.l x == V5.l y, true), (!belowB (V5.l x) up, true)]) : Is (evCall (EG noRows false [] []) 60 78 [.agg (v5 x), .agg (v5 y), .bv .u64 up] ⟨[], [true, true], allW⟩ (fun v _ => v = rsame_r0 x y up)) := ev_eq [(V5.l x == V5.l y, true), (!belowB (V5.l x) up, true)] (rsame_r0 x y up) (by kernel_rfl) h
noncomputable def rsame_r1 (x y : V5) (up : BitVec 64) : AV := AV.bool false (false != (V5.a x == V5.a y && (V5.b x == V5.b y && (V5.c x == V5.c y && (V5.d x == V5.d y && true)))))
theorem rsame_1 (x y : V5) (up : BitVec 64) (h : AllE [(V5.l x == V5.l y, true), (!belowB (V5.l x) up, false)]) : Is (evCall (EG noRows false [] []) 60 78 [.agg (v5 x), .agg (v5 y), .bv .u64 up] ⟨[], [true, false], allW⟩ (fun v _ => v = rsame_r1 x y up)) := ev_eq [(V5.l x == V5.l y, true), (!belowB (V5.l x) up, false)] (rsame_r1 x y up) (by kernel_rfl) h
noncomputable def rsame_r2 (x y : V5) (up : BitVec 64) : AV := AV.bool true false
theorem rsame_2 (x y : V5) (up : BitVec 64) (h : AllE [(V5.l x == V5.l y, false)]) : Is (evCall (EG noRows false [] []) 60 78 [.agg (v5 x), .agg (v5 y), .bv .u64 up] ⟨[], [false], allW⟩ (fun v _ => v = rsame_r2 x y up)) := ev_eq [(V5.l x == V5.l y, false)] (rsame_r2 x y up) (by kernel_rfl) h
theorem rsame_any (x y : V5) (up : BitVec 64)  (w : World) : Calls Try.prog 78 #[.agg (v5V x).toArray, .agg (v5V y).toArray, .int .u64 (up.toNat : Int)] w fun e w' => e = .returned (.bool (sameB x y up)) ∧ Below w.heap.size w w' := by
  rcases h0 : (V5.l x == V5.l y) with _ | _
  · have hV : (rsame_r2 x y up).told? = some (.bool (sameB x y up)) := congrArg some (by show Value.bool _ = Value.bool _; congr 1; unfold sameB wordsB; revert h0; generalize (x.a == y.a && (x.b == y.b && (x.c == y.c && (x.d == y.d && true)))) = q; generalize (x.l == y.l) = p; intro _; cases p <;> cases q <;> first | rfl | contradiction)
    exact ev_callsI (EG_ok rwOK_no false good_nil goodM_nil) 60 (rsame_2 x y up (allE_cons h0 allE_nil)) hV (.cons (rel_v5 x) (.cons (rel_v5 y) (.cons (.bv rfl) .nil))) rfl w
  · rcases h1 : (!belowB (V5.l x) up) with _ | _
    · have hV : (rsame_r1 x y up).told? = some (.bool (sameB x y up)) := congrArg some (by show Value.bool _ = Value.bool _; congr 1; unfold sameB wordsB; revert h0 h1; generalize (x.a == y.a && (x.b == y.b && (x.c == y.c && (x.d == y.d && true)))) = q; generalize (x.l == y.l) = p; generalize belowB x.l up = r; intro _ _; cases p <;> cases q <;> cases r <;> first | rfl | contradiction)
      exact ev_callsI (EG_ok rwOK_no false good_nil goodM_nil) 60 (rsame_1 x y up (allE_cons h0 (allE_cons h1 allE_nil))) hV (.cons (rel_v5 x) (.cons (rel_v5 y) (.cons (.bv rfl) .nil))) rfl w
    · have hV : (rsame_r0 x y up).told? = some (.bool (sameB x y up)) := congrArg some (by show Value.bool _ = Value.bool _; congr 1; unfold sameB wordsB; revert h0 h1; generalize (x.a == y.a && (x.b == y.b && (x.c == y.c && (x.d == y.d && true)))) = q; generalize (x.l == y.l) = p; generalize belowB x.l up = r; intro _ _; cases p <;> cases q <;> cases r <;> first | rfl | contradiction)
      exact ev_callsI (EG_ok rwOK_no false good_nil goodM_nil) 60 (rsame_0 x y up (allE_cons h0 (allE_cons h1 allE_nil))) hV (.cons (rel_v5 x) (.cons (rel_v5 y) (.cons (.bv rfl) .nil))) rfl w
def ctrSame : CtrF
  | [.agg [.bv .u64 a, .bv .u64 b, .bv .u64 c, .bv .u64 d, .bv .u64 l], .agg [.bv .u64 a', .bv .u64 b', .bv .u64 c', .bv .u64 d', .bv .u64 l'], u], _ => match labA u with
    | some (_, up, cs) => some (.bool false (sameB ⟨a, b, c, d, l⟩ ⟨a', b', c', d', l'⟩ up), cs)
    | none => none
  | _, _ => none
theorem ctrS1_ok {R : Rws} : Good Try.prog R 64 ctrSame := by
  refine ⟨enters_of Try.func64 (by kernel_rfl) rfl, fun args H v cs hv hcs => ?_⟩
  unfold ctrSame at hv
  split at hv
  · rename_i a b c d l a' b' c' d' l' u
    split at hv
    · rename_i ll up cs' h1
      cases hv
      refine ⟨_, rfl, fun Hr Args ha _ _ w _ => ?_⟩
      cases ha with | cons a1 ha =>
      cases ha with | cons a2 ha =>
      cases ha with | cons a3 ha =>
      cases ha
      obtain rfl := labA_rel h1 hcs a3
      obtain rfl := rel_v5_inv (x := ⟨a, b, c, d, l⟩) a1
      obtain rfl := rel_v5_inv (x := ⟨a', b', c', d', l'⟩) a2
      exact tsame_any _ _ _ w
    · cases hv
  · cases hv
theorem ctrS2_ok {R : Rws} : Good Try.prog R 78 ctrSame := by
  refine ⟨enters_of Try.func78 (by kernel_rfl) rfl, fun args H v cs hv hcs => ?_⟩
  unfold ctrSame at hv
  split at hv
  · rename_i a b c d l a' b' c' d' l' u
    split at hv
    · rename_i ll up cs' h1
      cases hv
      refine ⟨_, rfl, fun Hr Args ha _ _ w _ => ?_⟩
      cases ha with | cons a1 ha =>
      cases ha with | cons a2 ha =>
      cases ha with | cons a3 ha =>
      cases ha
      obtain rfl := labA_rel h1 hcs a3
      obtain rfl := rel_v5_inv (x := ⟨a, b, c, d, l⟩) a1
      obtain rfl := rel_v5_inv (x := ⟨a', b', c', d', l'⟩) a2
      exact rsame_any _ _ _ w
    · cases hv
  · cases hv
noncomputable def tabS : List (Nat × CtrF) := [(64, ctrSame), (78, ctrSame)]
theorem tabS_ok {R : Rws} : ∀ p ∈ tabS, Good Try.prog R p.1 p.2 := good_cons (p := (_, _)) ctrS1_ok (good_cons (p := (_, _)) ctrS2_ok good_nil)
end Go.Proofs.Ytcfomhnfhalmaaa
end

section
set_option linter.unusedVariables false
set_option linter.unusedSimpArgs false
set_option maxRecDepth 100000
namespace Go.Proofs.Ytcfomhnfhalmaaa
open Go.RowKit

theorem first_no (p : Nat → Bool) : ∀ n : Nat, (∀ i, i < n → p i = true) ∨ ∃ j, j < n ∧ p j = false ∧ ∀ i, i < j → p i = true
  | 0 => .inl fun i hi => absurd hi (by omega)
  | n + 1 => by
    rcases first_no p n with h | ⟨j, h1, h2, h3⟩
    · cases hp : p n with
      | true =>
        refine .inl fun i hi => ?_
        rcases Nat.lt_or_ge i n with h' | h'
        · exact h i h'
        · rw [show i = n by omega]; exact hp
      | false => exact .inr ⟨n, by omega, hp, h⟩
    · exact .inr ⟨j, by omega, h2, h3⟩
theorem labA_wk {x : AV} {l : Bool} {a : BitVec 64} {cs : List Bool} (h : labA x = some (l, a, cs)) (hcs : ∀ c ∈ cs, c = true) : wkA x (.bv .u64 a) := fun R ρ V hr => by
  obtain rfl := labA_rel h hcs hr
  exact .bv rfl
end Go.Proofs.Ytcfomhnfhalmaaa
end

section
set_option linter.unusedVariables false
set_option linter.unusedSimpArgs false
set_option maxRecDepth 100000
end

section
set_option linter.unusedVariables false
set_option linter.unusedSimpArgs false
set_option maxRecDepth 100000
end

section
set_option linter.unusedVariables false
set_option linter.unusedSimpArgs false
set_option maxRecDepth 100000
end

section
set_option linter.unusedVariables false
set_option linter.unusedSimpArgs false
set_option maxRecDepth 100000
namespace Go.Proofs.Ytcfomhnfhalmaaa
open Go.RowKit

/-- A slice that is handed in: n elements of s cells each. -/
def mkRow (A : Option Addr) (n s : Nat) (G : Nat → List AV) : RowI := ⟨A, n, s, fun i => G i.toNat, fun i => (AV.vals? (G i)).getD [], []⟩
def rws (l : List RowI) : Rws := fun j => l[j]?
structure RowFine (r : RowI) : Prop where
  val : ∀ i : Nat, i < r.n → AV.vals? (r.F i) = some (r.V i)
  len : ∀ i, i < r.n → (r.V i).length = r.s
  one : ∀ i, i < r.n → ∀ v ∈ r.V i, v.oneCell' = true
  addr : 0 < r.n → ∃ b off, r.A = some ⟨b, off, none⟩
  sub : r.sub = []
theorem mkRow_fine {A : Option Addr} {n s : Nat} {G : Nat → List AV} (hG : ∀ i, ∃ V, AV.vals? (G i) = some V ∧ V.length = s ∧ ∀ v ∈ V, v.oneCell' = true) (hA : 0 < n → ∃ b off, A = some ⟨b, off, none⟩) : RowFine (mkRow A n s G) := by
  refine ⟨fun i _ => ?_, fun i _ => ?_, fun i _ v hv => ?_, hA, rfl⟩
  · obtain ⟨V, h1, _⟩ := hG i
    show AV.vals? (G ((i : Nat) : Int).toNat) = some ((AV.vals? (G i)).getD [])
    rw [Int.toNat_natCast, h1]; rfl
  · obtain ⟨V, h1, h2, _⟩ := hG i
    show ((AV.vals? (G i)).getD []).length = s
    rw [h1]; exact h2
  · obtain ⟨V, h1, _, h3⟩ := hG i
    have hv : v ∈ (AV.vals? (G i)).getD [] := hv
    rw [h1] at hv
    exact h3 v hv
/-- What the slice's cells are. -/
def rowCells (n : Nat) (G : Nat → List AV) : List Value := (List.range n).flatMap fun i => (AV.vals? (G i)).getD []
theorem mkRow_addr {A : Option Addr} {n s : Nat} {G : Nat → List AV} {w : World} (hs : 0 < s) (hG : ∀ i, ∃ V, AV.vals? (G i) = some V ∧ V.length = s ∧ ∀ v ∈ V, v.oneCell' = true) (hS : SlAt w A (rowCells n G)) (h0 : 0 < n) : ∃ b off, A = some ⟨b, off, none⟩ := by
  rcases hS with h | ⟨b, off, rfl, _⟩
  · exfalso
    have hl : (rowCells n G).length = n * s := rng_len fun i _ => by obtain ⟨V, h1, h2, _⟩ := hG i; rw [h1]; exact h2
    rw [h] at hl
    have := Nat.mul_pos h0 hs
    simp at hl; omega
  · exact ⟨b, off, rfl⟩
theorem rws_rd {l : List RowI} {w : World} (h : ∀ r ∈ l, ∃ n s G, r = mkRow r.A n s G ∧ 0 < s ∧ (∀ i, ∃ V, AV.vals? (G i) = some V ∧ V.length = s ∧ ∀ v ∈ V, v.oneCell' = true) ∧ SlAt w r.A (rowCells n G)) : Rd (rws l) [] w := fun j r hj b off hA h0 => by
  obtain ⟨n, s, G, e, hs, hG, hS⟩ := h r (List.mem_of_getElem? hj)
  rw [e] at h0 ⊢
  have h0 : 0 < n := h0
  rw [hA] at hS
  rcases hS with h | ⟨b', off', hA', hb, hc⟩
  · exfalso
    have hl : (rowCells n G).length = n * s := rng_len fun i _ => by obtain ⟨V, h1, h2, _⟩ := hG i; rw [h1]; exact h2
    rw [h] at hl
    have := Nat.mul_pos h0 hs
    simp at hl; omega
  · cases hA'
    refine ⟨by simp, hb, fun i hi q u hu => ?_⟩
    have hi : i < n := hi
    have hu : ((AV.vals? (G i)).getD [])[q]? = some u := hu
    obtain ⟨V, h1, h2, _⟩ := hG i
    have hq : q < s := by rw [h1] at hu; rw [← h2]; exact (List.getElem?_eq_some_iff.1 hu).1
    have h3 := hc (i * s + q) u ((rng_get (V := fun i => (AV.vals? (G i)).getD []) (fun i _ => by obtain ⟨V, h1, h2, _⟩ := hG i; simp only [h1]; exact h2) i q hi hq).trans hu)
    show w.cell? ⟨b, off + i * s + q, none⟩ = some u
    rw [Nat.add_assoc]; exact h3
end Go.Proofs.Ytcfomhnfhalmaaa
end

section
set_option linter.unusedVariables false
set_option linter.unusedSimpArgs false
set_option maxRecDepth 100000
namespace Go.Proofs.Ytcfomhnfhalmaaa
open Go.RowKit

abbrev SmP := List AV → Mem → Option VC
/-- What a function that only reads answers, said on the blocks that it reaches. -/
def frP (S : SmP) : CtrF := fun args H =>
  let sel := meetN H 200 (refsL args) []
  match renL sel args, allSome (sel.map fun l => (H[l]?).bind (renI sel)) with
  | some a0, some H0 => match S a0 H0 with
    | some (v, cs) => bif nodupN sel then some (v, cs) else none
    | none => none
  | _, _ => none
def GoodP (P : Program) (R : Rws) (f : FuncId) (S : SmP) : Prop := Enters P f ∧ ∀ args H v cs, S args H = some (v, cs) → (∀ c ∈ cs, c = true) → ∃ V, v.told? = some V ∧ ∀ Hr w Args, RelL R (nums Hr) args Args → RelB R (nums Hr) H Hr → Apart H Hr → OwnK R H Hr w → Calls P f Args.toArray w fun e w' => e = .returned V ∧ Below w.heap.size w w'
theorem frP_ok {P : Program} {R : Rws} {f : FuncId} {S : SmP} (h : GoodP P R f S) : Good P R f (frP S) := by
  refine ⟨h.1, fun args H v cs hF hcs => ?_⟩
  unfold frP at hF
  simp only at hF
  generalize hsel : meetN H 200 (refsL args) [] = sel at hF
  split at hF
  · rename_i a0 H0 h1 h2
    split at hF
    · rename_i v0 cs0 h3
      cases hb : nodupN sel <;> simp only [hb, cond_true, cond_false] at hF
      · cases hF
      cases hF
      obtain ⟨V, hV, hcall⟩ := h.2 _ _ _ _ h3 hcs
      refine ⟨V, hV, fun Hr Args hA hB hn w hO => ?_⟩
      have h4 := allSome_at h2
      have hlen : sel.length = H0.length := by have := congrArg List.length h4; simpa using this
      obtain ⟨g1, g2, g3, g4⟩ := sel_mem hb hlen (fun i l hi => by
        have h5 := congrArg (fun z : List (Option AIt) => z[i]?) h4
        simp only [List.getElem?_map, hi, Option.map_some] at h5
        cases hj : H0[i]? with
        | none => rw [hj] at h5; cases h5
        | some jt =>
          rw [hj, Option.map_some, Option.some.injEq, Option.bind_eq_some_iff] at h5
          obtain ⟨it, h6, h7⟩ := h5
          exact ⟨it, jt, h6, rfl, h7⟩) hB hn hO
      exact hcall _ w Args (RelL.ren (fun i l h => nums_pick g1 i l h) h1 hA) g2 g3 g4
    · cases hF
  · cases hF
/-- The end of a function that only reads, with marks of ranges. -/
theorem ev_endD {E : Env} (hE : EnvOK E) {Ds : List Nat} {live : List (Nat × AV)} {n n0 : Nat} {H : Mem} {ds : List Bool} {wr : Nat → Bool} {vs : List AV} {V : Value} {fn : Func} (h : ∀ rs, resA E.P E.rows H (pat live rs 0 n) fn.results.toList = some vs) (hV : (oneA vs).told? = some V) (hp : ∀ j r, E.rows j = some r → 0 < r.n → 0 < (r.V 0).length) {a : Act} {Hr Hr0 : List RBlk} {w w0 w1 : World} (hP : PatSt E.rows (Ds.map markD) live n ⟨H, ds, wr⟩ a Hr) (hB : Bun E.rows Ds n0 w0 H Hr w)
    (hS : Stp (newW Hr0.length) Hr0 w1 Hr w) (hD : ∀ D ∈ Ds, w1.heap.size ≤ D) {e : Exit} (he : e = .ret ∨ e = .normal) : bodyPostM Fence.wide 0 E.P fn (fun e w' => e = .returned V ∧ Below w1.heap.size w1 w') e a w := by
  obtain ⟨rs, hR⟩ := hP
  obtain ⟨V', hv, hres⟩ := results_sound hE.rows hR (h rs)
  have hVV : V' = V := hv.told hV
  subst hVV
  have hd : a.defers = Ds.map markD := by obtain ⟨tv, rfl, _⟩ := hR; rfl
  have hbel : Below w1.heap.size w1 w := ⟨hS.os, hS.tape, hS.output, hS.size, fun k hk => hS.block k hk fun l q hl _ _ => by
    have hlt : l < Hr0.length := by have := (List.getElem?_eq_some_iff.1 hl).1; simpa [nums] using this
    unfold newW
    rw [← Bool.not_eq_true, Nat.ble_eq]
    omega⟩
  have := leave_marks (P := E.P) (fn := fn) (tmps := a.tmps) (Q := fun e w' => e = .returned V' ∧ Below w1.heap.size w1 w') Ds w (fun D hD => (hB.marks D hD).1) hB.nodup
    ⟨V', hres _ ⟨own_putsD Ds (fun D hD => (hB.marks D hD).2.1) hB.own.1, rd_putsD Ds (fun D hD => (hB.marks D hD).1) hB.nodup hE.rows hB.own.2 hp⟩, rfl, below_putsD Ds hD hbel⟩
  rw [← hd] at this
  rcases he with rfl | rfl <;> exact this
end Go.Proofs.Ytcfomhnfhalmaaa
end

section
set_option linter.unusedVariables false
set_option linter.unusedSimpArgs false
set_option maxRecDepth 100000
namespace Go.Proofs.Ytcfomhnfhalmaaa
open Go.RowKit

structure C2 where
  b : Int
  l : BitVec 64
def k2 (x : C2) : List AV := [.int .u8 false x.b, .bv .u64 x.l]
def z2 : C2 := ⟨0, 0⟩
def F2 (L : List C2) (i : Nat) : List AV := k2 (L.getD i z2)
theorem F2_len (L : List C2) (i : Nat) : (F2 L i).length = 2 := rfl
def mapC (n : Nat) (g : Nat → C2) : List C2 := (List.range n).map g
theorem mapC_len (n : Nat) (g : Nat → C2) : (mapC n g).length = n := by simp [mapC]
theorem mapC_get {n : Nat} {g : Nat → C2} {i : Nat} (h : i < n) : (mapC n g).getD i z2 = g i := by
  simp [mapC, List.getD_eq_getElem?_getD, h]
theorem F2_mapC {n : Nat} {g : Nat → C2} {i : Nat} (h : i < n) : F2 (mapC n g) i = k2 (g i) := by unfold F2; rw [mapC_get h]
theorem listC_get (L : List C2) : mapC L.length (fun i => L.getD i z2) = L := by
  apply List.ext_getElem
  · simp [mapC]
  · intro i h1 h2
    simp [mapC, List.getD_eq_getElem?_getD, List.getElem?_eq_getElem h2]
theorem mapC_ext {n : Nat} {g h : Nat → C2} (H : ∀ i, i < n → g i = h i) : mapC n g = mapC n h := by
  unfold mapC
  exact List.map_congr_left fun i hi => H i (List.mem_range.1 hi)
theorem extC {L M : List C2} (hl : L.length = M.length) (h : ∀ i, i < L.length → L.getD i z2 = M.getD i z2) : L = M := by
  rw [← listC_get L, ← listC_get M, ← hl]; exact mapC_ext h
theorem getC_out {L : List C2} {i : Nat} (h : L.length ≤ i) : L.getD i z2 = z2 := by simp [List.getD_eq_getElem?_getD, List.getElem?_eq_none h]
open Classical in
/-- A row's elements are these cells. -/
noncomputable def rowIsC (F : Nat → List AV) (n : Nat) (L : List C2) : Bool := decide (L.length = n ∧ ∀ i, i < n → AV.vals? (F i) = AV.vals? (F2 L i))
theorem rowIsC_spec {F : Nat → List AV} {n : Nat} {L : List C2} (h : rowIsC F n L = true) : L.length = n ∧ ∀ i, i < n → AV.vals? (F i) = AV.vals? (F2 L i) := by
  simpa [rowIsC] using h
theorem rowIsC_self (L : List C2) : rowIsC (F2 L) L.length L = true := by simp [rowIsC]
theorem rowIsC_of {F : Nat → List AV} {n : Nat} {L : List C2} (h1 : L.length = n) (h2 : ∀ i, i < n → AV.vals? (F i) = AV.vals? (F2 L i)) : rowIsC F n L = true := by
  simpa [rowIsC, h1] using h2
/-- So many cells, what is there and noughts behind. -/
def growC (M : List C2) (n : Nat) : List C2 := mapC n fun i => M.getD i z2
def storeC (M : List C2) (at' : Nat) (K : List C2) (k : Nat) : List C2 := mapC M.length fun i => if at' ≤ i ∧ i < at' + k then K.getD (i - at') z2 else M.getD i z2
def loadC (M : List C2) (at' n : Nat) : List C2 := mapC n fun i => M.getD (at' + i) z2
theorem grow_lenC (M : List C2) (n : Nat) : (growC M n).length = n := mapC_len _ _
theorem store_lenC (M : List C2) (a : Nat) (K : List C2) (k : Nat) : (storeC M a K k).length = M.length := mapC_len _ _
theorem load_lenC (M : List C2) (a n : Nat) : (loadC M a n).length = n := mapC_len _ _
end Go.Proofs.Ytcfomhnfhalmaaa
end

section
set_option linter.unusedVariables false
set_option linter.unusedSimpArgs false
set_option maxRecDepth 100000
namespace Go.Proofs.Ytcfomhnfhalmaaa
open Go.RowKit

/-- A call on a memory. -/
structure M3 where
  at' : Int
  n : Int
  A : Option Addr
  K : List C2
  c : Nat
def zM : M3 := ⟨0, 0, none, [], 0⟩
def F3 (X : List M3) (i : Nat) : List AV := let x := X.getD i zM; [.int .i64 false x.at', .int .i64 false x.n, .raw (.slice x.A x.K.length x.c)]
/-- What is handed in: the calls, and each one's cells. -/
noncomputable def RM (A0 : Option Addr) (X : List M3) : Rws := fun j => match j with
  | 0 => some (mkRow A0 X.length 3 (F3 X))
  | i + 1 => some (mkRow (X.getD i zM).A (X.getD i zM).K.length 2 (F2 (X.getD i zM).K))
end Go.Proofs.Ytcfomhnfhalmaaa
end

section
set_option linter.unusedVariables false
set_option linter.unusedSimpArgs false
set_option maxRecDepth 100000
namespace Go.Proofs.Ytcfomhnfhalmaaa
open Go.RowKit

theorem ev_wayP {E : Env} {nf f : Nat} {args : List AV} {st : AM} {sel : List Nat} {v : AV} {H : Mem} {cs : List (Bool × Bool)} (h : evCall E nf f args st (fun v' m => (renA sel v', sel.map fun l => (m.H[l]?).bind (renI sel)) = (some v, H.map some)) = allE cs ((some v, H.map some) = (some v, H.map some))) (hl : AllE cs) : Is (evCall E nf f args st (fun v' m => (renA sel v', sel.map fun l => (m.H[l]?).bind (renI sel)) = (some v, H.map some))) := ev_eq cs (some v, H.map some) h hl
theorem sto_w (A0 : Option Addr) (X : List M3) (k c : Nat) (L : List C2) (at0 : Int) (t0 t1 t2 t3 : TypeId) (h : AllE [(decide ((↑(List.length (M3.K (List.getD X k zM))) : Int) > 0), true), (decide (List.length L ≤ 1000000), true), (decide (0 + List.length L ≤ List.length L), true), (decide (0 ≤ at0 ∧ at0 ≤ (↑(List.length L) : Int) ∧ (↑(List.length L) : Int) ≤ (↑(List.length L) : Int)), true), (decide (0 < Nat.min (List.length (M3.K (List.getD X k zM))) (Int.toNat ((↑(List.length L) : Int) - at0))), true), (decide (0 + Int.toNat at0 + Int.toNat ((↑(List.length L) : Int) - at0) ≤ List.length L), true)]) : Is (evCall (EG (RM A0 X) false tabS []) 60 51 [.ptr 0 0, .ptr 1 0, .ptr 2 0] ⟨[.cells [.rsl (k + 1) (X.getD k zM).K.length c] t1, .cells [.ptr 3 0] t2, .cells [.int .i64 false at0] t3, .cells [.gsl .any 4 0 L.length, .bool true true] t0, .row L.length 2 (F2 L) ccE none], [true], allW⟩ (fun v m => (renA [0, 1, 2, 3, 4, 6] v, ([0, 1, 2, 3, 4, 6] : List Nat).map fun l => (m.H[l]?).bind (renI [0, 1, 2, 3, 4, 6])) = (some (.tuple []), ([.cells [.rsl (k + 1) (X.getD k zM).K.length c] t1, .cells [.ptr 3 0] t2, .cells [.int .i64 false at0] t3, .cells [.gsl .top 5 0 L.length, .bool true true] t0, .row L.length 2 (F2 L) ccE none, .row L.length 2 (fun i => bif Nat.ble (0 + Int.toNat at0) i && Nat.blt i (0 + Int.toNat at0 + Nat.min (X.getD k zM).K.length (Int.toNat ((L.length : Int) - at0))) then F2 (X.getD k zM).K (Int.toNat ((i - (0 + Int.toNat at0) : Nat) : Int)) else F2 L (0 + i)) ccE none] : Mem).map some))) := ev_wayP (by kernel_rfl) h
noncomputable def stoS (X : List M3) (k : Nat) (L : List C2) : SmF
  | [.ptr 0 0, .ptr 1 0, .ptr 2 0], [.cells [.rsl j m c] t1, .cells [.ptr 3 0] t2, .cells [.int .i64 l1 at0] t3, .cells [.gsl cp 4 0 n, .bool l2 true] t0, .row N 2 F e none] => some (.tuple [], [.cells [.rsl j m c] t1, .cells [.ptr 3 0] t2, .cells [.int .i64 l1 at0] t3, .cells [.gsl .any 5 0 L.length, .bool true true] t0, .row n 2 (F2 L) e none, .row L.length 2 (F2 (storeC L at0.toNat (X.getD k zM).K (X.getD k zM).K.length)) ccE none], [rowIsC F n L, decide (n ≤ N), decide (n ≤ 1000000), decide (e = ccE), decide (j = k + 1), decide (m = (X.getD k zM).K.length), decide (0 ≤ at0), decide (at0 + m ≤ n), decide (0 < m)])
  | _, _ => none
theorem store_row {L K : List C2} {a n : Nat} {G : Nat → List AV} (hn : a + K.length ≤ L.length) (hm : n = L.length - a) (hG : ∀ i, i < K.length → G i = F2 K i) {i : Nat} (hi : i < L.length) : (bif Nat.ble (0 + a) i && Nat.blt i (0 + a + Nat.min K.length n) then G (i - (0 + a)) else F2 L (0 + i)) = F2 (storeC L a K K.length) i := by
  rw [show F2 (storeC L a K K.length) i = k2 (if a ≤ i ∧ i < a + K.length then K.getD (i - a) z2 else L.getD i z2) from F2_mapC hi, Nat.zero_add, Nat.zero_add, show Nat.min K.length n = K.length from Nat.min_eq_left (by omega)]
  by_cases h : a ≤ i ∧ i < a + K.length
  · rw [if_pos h, show Nat.ble a i = true by rw [Nat.ble_eq]; exact h.1, show Nat.blt i (a + K.length) = true by rw [Nat.blt_eq]; exact h.2, Bool.true_and, cond_true, hG _ (by omega)]; rfl
  · rw [if_neg h]
    have : (Nat.ble a i && Nat.blt i (a + K.length)) = false := by
      rw [Bool.and_eq_false_iff, ← Bool.not_eq_true, ← Bool.not_eq_true, Nat.ble_eq, Nat.blt_eq]
      omega
    rw [this, cond_false]; rfl
set_option maxHeartbeats 1000000 in
theorem stoS_ok {A0 : Option Addr} {X : List M3} (hR : RwOK (RM A0 X)) (k : Nat) (L : List C2) : GoodS Try.prog (RM A0 X) 51 (stoS X k L) := by
  refine ⟨enters_of Try.func51 (by kernel_rfl) rfl, fun args H v H' cs h hcs Hr w Args hA hB hn hO => ?_⟩
  unfold stoS at h
  split at h
  case h_2 => cases h
  rename_i j m c t1 t2 l1 at0 t3 cp n l2 t0 N F e
  cases h
  simp only [List.mem_cons, List.not_mem_nil, or_false, forall_eq_or_imp, forall_eq] at hcs
  obtain ⟨c1, c2, c3, c4, c5, c6, c7, c8, c9⟩ := hcs
  have c2 := of_decide_eq_true c2
  have c3 := of_decide_eq_true c3
  have c4 := of_decide_eq_true c4
  have c5 := of_decide_eq_true c5
  have c6 := of_decide_eq_true c6
  have c7 := of_decide_eq_true c7
  have c8 := of_decide_eq_true c8
  have c9 := of_decide_eq_true c9
  obtain ⟨d1, d2⟩ := rowIsC_spec c1
  subst d1 c4 c5 c6
  have hE := EG_ok (T := tabS) hR false tabS_ok goodM_nil
  have hW : wkM [.cells [.rsl (k + 1) (X.getD k zM).K.length c] t1, .cells [.ptr 3 0] t2, .cells [.int .i64 l1 at0] t3, .cells [.gsl cp 4 0 L.length, .bool l2 true] t0, .row N 2 F ccE none] [.cells [.rsl (k + 1) (X.getD k zM).K.length c] t1, .cells [.ptr 3 0] t2, .cells [.int .i64 false at0] t3, .cells [.gsl .any 4 0 L.length, .bool true true] t0, .row L.length 2 (F2 L) ccE none] := ⟨wkI.refl _, wkI.refl _, ⟨rfl, wkA_int, trivial⟩, ⟨rfl, wkA_any, wkA_bool, trivial⟩, ⟨c2, rfl, rfl, rfl, d2⟩, trivial⟩
  obtain ⟨hB', hn'⟩ := hW.mem hB hn
  have hO' := hW.own hO
  have hmin : 0 < Nat.min (X.getD k zM).K.length (Int.toNat ((L.length : Int) - at0)) := by
    rw [show Nat.min (X.getD k zM).K.length (Int.toNat ((L.length : Int) - at0)) = (X.getD k zM).K.length from Nat.min_eq_left (by omega)]
    exact c9
  exact ev_callW hE (H2 := [.cells [.rsl (k + 1) (X.getD k zM).K.length c] t1, .cells [.ptr 3 0] t2, .cells [.int .i64 l1 at0] t3, .cells [.gsl .any 5 0 L.length, .bool true true] t0, .row L.length 2 (F2 L) ccE none, .row L.length 2 (F2 (storeC L at0.toNat (X.getD k zM).K (X.getD k zM).K.length)) ccE none]) 60 [0, 1, 2, 3, 4, 6] (by decide) (by rfl) rfl (sto_w A0 X k c L at0 t0 t1 t2 t3 (allE_cons (by first | exact decide_eq_true rfl | exact decide_eq_true (by omega)) (allE_cons (by first | exact decide_eq_true rfl | exact decide_eq_true (by omega)) (allE_cons (by first | exact decide_eq_true rfl | exact decide_eq_true (by omega)) (allE_cons (by first | exact decide_eq_true rfl | exact decide_eq_true (by omega)) (allE_cons (decide_eq_true hmin) (allE_cons (by first | exact decide_eq_true rfl | exact decide_eq_true (by omega)) allE_nil))))))) (wkA.refl _) ⟨wkI.refl _, wkI.refl _, ⟨rfl, wkA_int, trivial⟩, ⟨rfl, wkA_any, wkA.refl _, trivial⟩, wkI.refl _, wkI_row (Nat.le_refl _) (fun i hi => store_row (K := (X.getD k zM).K) (G := fun i => F2 (X.getD k zM).K (Int.toNat ((i : Nat) : Int))) (by omega) (by omega) (fun i _ => rfl) hi), trivial⟩ hA hB' hn' hO'
end Go.Proofs.Ytcfomhnfhalmaaa
end

section
set_option linter.unusedVariables false
set_option linter.unusedSimpArgs false
set_option maxRecDepth 100000
namespace Go.Proofs.Ytcfomhnfhalmaaa
open Go.RowKit

def ctrReachV (nn ee : Int) : List AV → Mem → Option VC
  | [.int .i64 _ n, x, y], _ => match small1 x, small1 y with
    | some (_, a), some (_, m) => some (.tuple [.int .i64 false nn, .int .u64 false (reachC n (BitVec.ofInt 256 a) (BitVec.ofInt 256 m)), .int .i64 false ee], [decide (0 ≤ a ∧ a < 18446744073709551616), decide (0 ≤ m ∧ m < 18446744073709551616), decide (reachN n (BitVec.ofInt 256 a) (BitVec.ofInt 256 m) = nn ∧ reachE n (BitVec.ofInt 256 a) (BitVec.ofInt 256 m) = ee)])
    | _, _ => none
  | _, _ => none
theorem ctrReachV_ok {R : Rws} (nn ee : Int) : Good Try.prog R 81 (ctrReachV nn ee) := by
  refine ⟨ctrReach_ok (R := R) |>.1, fun args H v cs hv hcs => ?_⟩
  unfold ctrReachV at hv
  split at hv
  · rename_i l n x y
    split at hv
    · rename_i l1 a l2 m h1 h2
      cases hv
      simp only [List.mem_cons, List.not_mem_nil, or_false, forall_eq_or_imp, forall_eq] at hcs
      obtain ⟨q1, q2, q3⟩ := hcs
      have q1 := of_decide_eq_true q1
      have q2 := of_decide_eq_true q2
      obtain ⟨rfl, rfl⟩ := of_decide_eq_true q3
      refine ⟨_, rfl, fun Hr Args ha _ _ w _ => ?_⟩
      cases ha with | cons a1 ha =>
      cases ha with | cons a2 ha =>
      cases ha with | cons a3 ha =>
      cases ha
      cases a1
      obtain rfl := small1_rel h1 a2 q1.1 q1.2
      obtain rfl := small1_rel h2 a3 q2.1 q2.2
      exact reach_any n _ _ w
    · cases hv
  · cases hv
noncomputable def tRV (nn ee : Int) : List (Nat × CtrF) := (81, ctrReachV nn ee) :: tabS
theorem tRV_ok {R : Rws} (nn ee : Int) : ∀ p ∈ tRV nn ee, Good Try.prog R p.1 p.2 := good_cons (p := (_, _)) (ctrReachV_ok nn ee) tabS_ok
end Go.Proofs.Ytcfomhnfhalmaaa
end

section
set_option linter.unusedVariables false
set_option linter.unusedSimpArgs false
set_option maxRecDepth 100000
namespace Go.Proofs.Ytcfomhnfhalmaaa
open Go.RowKit

open Classical in
/-- What holds, as a truth that is not reckoned. -/
noncomputable def rngB (p : Prop) : Bool := decide p
open Classical in
theorem rngB_t {p : Prop} (h : p) : rngB p = true := by unfold rngB; exact decide_eq_true h
open Classical in
theorem rngB_of {p : Prop} (h : rngB p = true) : p := by unfold rngB at h; exact of_decide_eq_true h
theorem ofInt_nat {a : Int} (h0 : 0 ≤ a) (h1 : a < 36893488147419103232) : (BitVec.ofInt 256 a).toNat = a.toNat := by
  obtain ⟨n, rfl⟩ := Int.eq_ofNat_of_zero_le h0
  rw [BitVec.ofInt_natCast, BitVec.toNat_ofNat, Int.toNat_natCast]
  exact Nat.mod_eq_of_lt (Nat.lt_of_lt_of_le (show n < 36893488147419103232 by omega) (by decide))
/-- What reaching comes to: an error's number. -/
def eM (a N : Int) : Int := if a < 0 ∨ N < 0 then 2 else if N = 0 ∨ a + N ≤ 16777216 then 0 else 4
/-- How many words there are then. -/
def wM (n : Nat) (a N : Int) : Nat := if N = 0 then n else if a + N ≤ 16777216 then max n ((a + N + 31) / 32).toNat else 0
theorem small_of {z : BitVec 256} {a : Nat} (h : z.toNat = a) (ha : a < 18446744073709551616) : smallB z = true ∧ L z 0 = (a : Int) := by
  refine ⟨?_, ?_⟩
  · simp only [smallB, L_eq, h, Bool.and_eq_true, decide_eq_true_eq]
    have e : ∀ k, 1 ≤ k → a / 2 ^ (64 * k) = 0 := fun k hk => Nat.div_eq_of_lt (Nat.lt_of_lt_of_le ha (show 18446744073709551616 ≤ 2 ^ (64 * k) from Nat.le_trans (by decide : 18446744073709551616 ≤ 2 ^ (64 * 1)) (Nat.pow_le_pow_right (by decide) (by omega))))
    simp [e 1 (by omega), e 2 (by omega), e 3 (by omega)]
  · rw [L0, h, Nat.mod_eq_of_lt ha]
theorem reach_is {n : Nat} {a N : Int} (hn : n ≤ 16777216) (ha : 0 ≤ a) (ha' : a < 9223372036854775808) (hN : 0 ≤ N) (hN' : N < 9223372036854775808) :
    reachN (n : Int) (BitVec.ofInt 256 a) (BitVec.ofInt 256 N) = (wM n a N : Int) ∧ reachE (n : Int) (BitVec.ofInt 256 a) (BitVec.ofInt 256 N) = eM a N := by
  have hok : okI (n : Int) = true := okI_yes (by omega) (by omega)
  have e1 := ofInt_nat ha (by omega)
  have e2 := ofInt_nat hN (by omega)
  have e3 : (BitVec.ofInt 256 a + BitVec.ofInt 256 N).toNat = (a + N).toNat := by
    rw [BitVec.toNat_add, e1, e2, Nat.mod_eq_of_lt (Nat.lt_of_lt_of_le (show a.toNat + N.toNat < 18446744073709551616 by omega) (by decide))]
    omega
  have hy : BitVec.ofInt 256 N = 0 ↔ N = 0 := by
    constructor
    · intro h
      have := congrArg BitVec.toNat h
      rw [e2] at this
      simp at this
      omega
    · rintro rfl; rfl
  obtain ⟨s1, s2⟩ := small_of e1 (by omega)
  obtain ⟨s3, s4⟩ := small_of e3 (by omega)
  have hend : endOk (BitVec.ofInt 256 a) (BitVec.ofInt 256 N) = (decide ((a + N : Int) ≤ 16777216) && decide (a < a + N)) := by
    unfold endOk
    rw [s1, s3, s2, s4, Bool.true_and, Bool.true_and, show ((a + N).toNat : Int) = a + N by omega, show (a.toNat : Int) = a by omega]
  have e5 : ((a + N).toNat : Int) = a + N := by omega
  have hm : ¬ (a < 0 ∨ N < 0) := by omega
  unfold reachN reachE wM eM
  rw [hok, hend, s4, e5, if_neg hm]
  by_cases h0 : N = 0
  · subst h0
    have : BitVec.ofInt 256 0 = (0 : BitVec 256) := rfl
    rw [if_pos this, if_pos this]
    exact ⟨rfl, rfl⟩
  · have hy0 : ¬ BitVec.ofInt 256 N = (0 : BitVec 256) := fun h => h0 (hy.1 h)
    have hlt : decide (a < a + N) = true := decide_eq_true (by omega)
    rw [if_neg hy0, if_neg hy0, if_neg h0, hlt, Bool.and_true]
    by_cases h1 : a + N ≤ 16777216
    · have h2 : N = 0 ∨ a + N ≤ 16777216 := .inr h1
      rw [decide_eq_true h1, if_pos h1, if_pos h2]
      refine ⟨?_, rfl⟩
      show max (n : Int) (wordsI (a + N)) = _
      unfold wordsI
      rcases Nat.le_total n ((a + N + 31) / 32).toNat with h | h
      · rw [Nat.max_eq_right h]; omega
      · rw [Nat.max_eq_left h]; omega
    · have h2 : ¬ (N = 0 ∨ a + N ≤ 16777216) := fun h => h.elim h0 h1
      rw [decide_eq_false h1, if_neg h1, if_neg h2]
      exact ⟨rfl, rfl⟩
/-- How many cells there are then. -/
def lenM (n : Nat) (a N : Int) : Nat := if eM a N = 0 then 32 * wM (n / 32) a N else n
def growM (L : List C2) (a N : Int) : List C2 := growC L (lenM L.length a N)
def nextS (L : List C2) (a : Int) (K : List C2) : List C2 := if eM a K.length = 0 then storeC (growM L a K.length) a.toNat K K.length else L
/-- What is told. -/
def outM (L : List C2) (a N : Int) : List C2 := if eM a N = 0 ∧ 0 < N then loadC (growM L a N) a.toNat N.toNat else []
theorem grow_self (L : List C2) : growC L L.length = L := by
  refine extC (grow_lenC _ _) fun i hi => ?_
  rw [grow_lenC] at hi
  exact mapC_get hi
theorem eM_neg {a N : Int} (h : a < 0 ∨ N < 0) : eM a N = 2 := if_pos h
theorem eM_pos {a N : Int} (h : ¬ (a < 0 ∨ N < 0)) : eM a N = if N = 0 ∨ a + N ≤ 16777216 then 0 else 4 := if_neg h
theorem grow_no {L : List C2} {a N : Int} (h : eM a N ≠ 0) : growM L a N = L := by unfold growM lenM; rw [if_neg h, grow_self]
theorem grow_len {L : List C2} {a N : Int} (h : L.length % 32 = 0) (hm : ¬ (a < 0 ∨ N < 0)) : (growM L a N).length = if N ≠ 0 ∧ a + N ≤ 16777216 then max L.length (32 * ((a + N + 31) / 32).toNat) else L.length := by
  unfold growM
  rw [grow_lenC]
  unfold lenM wM
  rw [eM_pos hm]
  by_cases h0 : N = 0
  · subst h0
    rw [if_pos (by simp), if_pos rfl, if_neg (by simp)]; omega
  · rw [if_neg h0]
    by_cases h1 : a + N ≤ 16777216
    · rw [if_pos (by rw [if_pos (.inr h1)]), if_pos h1, if_pos ⟨h0, h1⟩]; omega
    · rw [if_neg (by rw [if_neg (fun h => h.elim h0 h1)]; decide), if_neg (fun h => h1 h.2)]
end Go.Proofs.Ytcfomhnfhalmaaa
end

section
set_option linter.unusedVariables false
set_option linter.unusedSimpArgs false
set_option maxRecDepth 100000
namespace Go.Proofs.Ytcfomhnfhalmaaa
open Go.RowKit

noncomputable def mSt (X : List M3) (k : Nat) (L2 : List C2) : List (Nat × CtmF) := [(51, frF (stoS X k L2))]
theorem rc_s1 (A0 : Option Addr) (X : List M3) (k c : Nat) (L L2 : List C2) (at0 N nn ee : Int) (t0 t1 t2 t3 : TypeId) (h : AllE [(decide (at0 < 0), true)]) : Is (evCall (EG (RM A0 X) false (tRV nn ee) (mSt X k L2)) 60 50 [.ptr 0 0, .int .i64 false at0, .int .i64 false N, .func (.func 51) [.ptr 1 0, .ptr 2 0, .ptr 3 0]] ⟨[.cells [.gsl .any 4 0 L.length, .bool true true] t0, .cells [.rsl (k + 1) (X.getD k zM).K.length c] t1, .cells [.ptr 0 0] t2, .cells [.int .i64 false at0] t3, .row L.length 2 (F2 L) ccE none], [true], allW⟩ (fun v m => (renA [0, 1, 2, 3, 4] v, ([0, 1, 2, 3, 4] : List Nat).map fun l => (m.H[l]?).bind (renI [0, 1, 2, 3, 4])) = (some (.int .i64 true 2), ([AIt.cells [.gsl .any 4 0 (List.length L), .bool true true] t0, AIt.cells [.rsl (k + 1) (List.length (M3.K (List.getD X k zM))) c] t1, AIt.cells [.ptr 0 0] t2, AIt.cells [.int .i64 false at0] t3, AIt.row (List.length L) 2 (F2 L) ccE none] : Mem).map some))) := ev_wayP (by kernel_rfl) h
theorem rc_s3 (A0 : Option Addr) (X : List M3) (k c : Nat) (L L2 : List C2) (at0 N nn ee : Int) (t0 t1 t2 t3 : TypeId) (h : AllE [(decide (at0 < 0), false), (decide (N < 0), false), (decide (0 ≤ IntKind.wrap IntKind.u64 at0 ∧ IntKind.wrap IntKind.u64 at0 < 18446744073709551616), true), (decide (0 ≤ IntKind.wrap IntKind.u64 N ∧ IntKind.wrap IntKind.u64 N < 18446744073709551616), true), (decide (reachN (IntKind.wrap IntKind.i64 (Int.tdiv (↑(List.length L) : Int) 32)) (BitVec.ofInt 256 (IntKind.wrap IntKind.u64 at0)) (BitVec.ofInt 256 (IntKind.wrap IntKind.u64 N)) = nn ∧ reachE (IntKind.wrap IntKind.i64 (Int.tdiv (↑(List.length L) : Int) 32)) (BitVec.ofInt 256 (IntKind.wrap IntKind.u64 at0)) (BitVec.ofInt 256 (IntKind.wrap IntKind.u64 N)) = ee), true), (ee != 0, true)]) : Is (evCall (EG (RM A0 X) false (tRV nn ee) (mSt X k L2)) 60 50 [.ptr 0 0, .int .i64 false at0, .int .i64 false N, .func (.func 51) [.ptr 1 0, .ptr 2 0, .ptr 3 0]] ⟨[.cells [.gsl .any 4 0 L.length, .bool true true] t0, .cells [.rsl (k + 1) (X.getD k zM).K.length c] t1, .cells [.ptr 0 0] t2, .cells [.int .i64 false at0] t3, .row L.length 2 (F2 L) ccE none], [false, false, true], allW⟩ (fun v m => (renA [0, 1, 2, 3, 4] v, ([0, 1, 2, 3, 4] : List Nat).map fun l => (m.H[l]?).bind (renI [0, 1, 2, 3, 4])) = (some (.int .i64 true 4), ([AIt.cells [.gsl .any 4 0 (List.length L), .bool true true] t0, AIt.cells [.rsl (k + 1) (List.length (M3.K (List.getD X k zM))) c] t1, AIt.cells [.ptr 0 0] t2, AIt.cells [.int .i64 false at0] t3, AIt.row (List.length L) 2 (F2 L) ccE none] : Mem).map some))) := ev_wayP (by kernel_rfl) h
theorem rc_s4 (A0 : Option Addr) (X : List M3) (k c : Nat) (L L2 : List C2) (at0 N nn ee : Int) (t0 t1 t2 t3 : TypeId) (h : AllE [(decide (at0 < 0), false), (decide (N < 0), false), (decide (0 ≤ IntKind.wrap IntKind.u64 at0 ∧ IntKind.wrap IntKind.u64 at0 < 18446744073709551616), true), (decide (0 ≤ IntKind.wrap IntKind.u64 N ∧ IntKind.wrap IntKind.u64 N < 18446744073709551616), true), (decide (reachN (IntKind.wrap IntKind.i64 (Int.tdiv (↑(List.length L) : Int) 32)) (BitVec.ofInt 256 (IntKind.wrap IntKind.u64 at0)) (BitVec.ofInt 256 (IntKind.wrap IntKind.u64 N)) = nn ∧ reachE (IntKind.wrap IntKind.i64 (Int.tdiv (↑(List.length L) : Int) 32)) (BitVec.ofInt 256 (IntKind.wrap IntKind.u64 at0)) (BitVec.ofInt 256 (IntKind.wrap IntKind.u64 N)) = ee), true), (ee != 0, false), (decide (0 ≤ IntKind.wrap IntKind.u64 at0 ∧ IntKind.wrap IntKind.u64 at0 < 18446744073709551616), true), (decide (0 ≤ IntKind.wrap IntKind.u64 N ∧ IntKind.wrap IntKind.u64 N < 18446744073709551616), true), (decide (reachN (IntKind.wrap IntKind.i64 (Int.tdiv (↑(List.length L) : Int) 32)) (BitVec.ofInt 256 (IntKind.wrap IntKind.u64 at0)) (BitVec.ofInt 256 (IntKind.wrap IntKind.u64 N)) = nn ∧ reachE (IntKind.wrap IntKind.i64 (Int.tdiv (↑(List.length L) : Int) 32)) (BitVec.ofInt 256 (IntKind.wrap IntKind.u64 at0)) (BitVec.ofInt 256 (IntKind.wrap IntKind.u64 N)) = ee), true), (decide (nn > IntKind.wrap IntKind.i64 (Int.tdiv (↑(List.length L) : Int) 32)), true), (decide (List.length L ≤ 1000000), true), (decide (0 + List.length L ≤ List.length L), true), (decide (List.length L ≤ List.length L), true), (decide (0 ≤ IntKind.wrap IntKind.i64 (IntKind.wrap IntKind.i64 (32 * nn) - (↑(List.length L) : Int))), true), (decide (List.length L + Int.toNat (IntKind.wrap IntKind.i64 (IntKind.wrap IntKind.i64 (32 * nn) - (↑(List.length L) : Int))) ≤ 1000000), true), (rowIsC (fun j => bif Nat.blt j (List.length L) then F2 L (0 + j) else AV.ofCells (Array.toList (Value.cells (Value.agg #[Value.int IntKind.u8 0, Value.int IntKind.u64 0])))) (List.length L + Int.toNat (IntKind.wrap IntKind.i64 (IntKind.wrap IntKind.i64 (32 * nn) - (↑(List.length L) : Int)))) L2, true), (decide (List.length L + Int.toNat (IntKind.wrap IntKind.i64 (IntKind.wrap IntKind.i64 (32 * nn) - (↑(List.length L) : Int))) ≤ List.length L + Int.toNat (IntKind.wrap IntKind.i64 (IntKind.wrap IntKind.i64 (32 * nn) - (↑(List.length L) : Int)))), true), (decide (List.length L + Int.toNat (IntKind.wrap IntKind.i64 (IntKind.wrap IntKind.i64 (32 * nn) - (↑(List.length L) : Int))) ≤ 1000000), true), (true, true), (decide (k + 1 = k + 1), true), (decide (List.length (M3.K (List.getD X k zM)) = List.length (M3.K (List.getD X k zM))), true), (decide (0 ≤ at0), true), (decide (at0 + (↑(List.length (M3.K (List.getD X k zM))) : Int) ≤ (↑(List.length L + Int.toNat (IntKind.wrap IntKind.i64 (IntKind.wrap IntKind.i64 (32 * nn) - (↑(List.length L) : Int)))) : Int)), true), (decide (0 < List.length (M3.K (List.getD X k zM))), true)]) : Is (evCall (EG (RM A0 X) false (tRV nn ee) (mSt X k L2)) 60 50 [.ptr 0 0, .int .i64 false at0, .int .i64 false N, .func (.func 51) [.ptr 1 0, .ptr 2 0, .ptr 3 0]] ⟨[.cells [.gsl .any 4 0 L.length, .bool true true] t0, .cells [.rsl (k + 1) (X.getD k zM).K.length c] t1, .cells [.ptr 0 0] t2, .cells [.int .i64 false at0] t3, .row L.length 2 (F2 L) ccE none], [false, false, false, true], allW⟩ (fun v m => (renA [0, 1, 2, 3, 4, 21] v, ([0, 1, 2, 3, 4, 21] : List Nat).map fun l => (m.H[l]?).bind (renI [0, 1, 2, 3, 4, 21])) = (some (.int .i64 true 0), ([AIt.cells [.gsl .any 5 0 (List.length L2), .bool true true] t0, AIt.cells [.rsl (k + 1) (List.length (M3.K (List.getD X k zM))) c] t1, AIt.cells [.ptr 0 0] t2, AIt.cells [.int .i64 false at0] t3, AIt.row (List.length L) 2 (F2 L) ccE none, AIt.row (List.length L2) 2 (F2 (storeC L2 (Int.toNat at0) (M3.K (List.getD X k zM)) (List.length (M3.K (List.getD X k zM))))) ccE none] : Mem).map some))) := ev_wayP (by kernel_rfl) h
theorem rc_s5 (A0 : Option Addr) (X : List M3) (k c : Nat) (L L2 : List C2) (at0 N nn ee : Int) (t0 t1 t2 t3 : TypeId) (h : AllE [(decide (at0 < 0), false), (decide (N < 0), false), (decide (0 ≤ IntKind.wrap IntKind.u64 at0 ∧ IntKind.wrap IntKind.u64 at0 < 18446744073709551616), true), (decide (0 ≤ IntKind.wrap IntKind.u64 N ∧ IntKind.wrap IntKind.u64 N < 18446744073709551616), true), (decide (reachN (IntKind.wrap IntKind.i64 (Int.tdiv (↑(List.length L) : Int) 32)) (BitVec.ofInt 256 (IntKind.wrap IntKind.u64 at0)) (BitVec.ofInt 256 (IntKind.wrap IntKind.u64 N)) = nn ∧ reachE (IntKind.wrap IntKind.i64 (Int.tdiv (↑(List.length L) : Int) 32)) (BitVec.ofInt 256 (IntKind.wrap IntKind.u64 at0)) (BitVec.ofInt 256 (IntKind.wrap IntKind.u64 N)) = ee), true), (ee != 0, false), (decide (0 ≤ IntKind.wrap IntKind.u64 at0 ∧ IntKind.wrap IntKind.u64 at0 < 18446744073709551616), true), (decide (0 ≤ IntKind.wrap IntKind.u64 N ∧ IntKind.wrap IntKind.u64 N < 18446744073709551616), true), (decide (reachN (IntKind.wrap IntKind.i64 (Int.tdiv (↑(List.length L) : Int) 32)) (BitVec.ofInt 256 (IntKind.wrap IntKind.u64 at0)) (BitVec.ofInt 256 (IntKind.wrap IntKind.u64 N)) = nn ∧ reachE (IntKind.wrap IntKind.i64 (Int.tdiv (↑(List.length L) : Int) 32)) (BitVec.ofInt 256 (IntKind.wrap IntKind.u64 at0)) (BitVec.ofInt 256 (IntKind.wrap IntKind.u64 N)) = ee), true), (decide (nn > IntKind.wrap IntKind.i64 (Int.tdiv (↑(List.length L) : Int) 32)), false), (rowIsC (F2 L) (List.length L) L2, true), (decide (List.length L ≤ List.length L), true), (decide (List.length L ≤ 1000000), true), (true, true), (decide (k + 1 = k + 1), true), (decide (List.length (M3.K (List.getD X k zM)) = List.length (M3.K (List.getD X k zM))), true), (decide (0 ≤ at0), true), (decide (at0 + (↑(List.length (M3.K (List.getD X k zM))) : Int) ≤ (↑(List.length L) : Int)), true), (decide (0 < List.length (M3.K (List.getD X k zM))), true)]) : Is (evCall (EG (RM A0 X) false (tRV nn ee) (mSt X k L2)) 60 50 [.ptr 0 0, .int .i64 false at0, .int .i64 false N, .func (.func 51) [.ptr 1 0, .ptr 2 0, .ptr 3 0]] ⟨[.cells [.gsl .any 4 0 L.length, .bool true true] t0, .cells [.rsl (k + 1) (X.getD k zM).K.length c] t1, .cells [.ptr 0 0] t2, .cells [.int .i64 false at0] t3, .row L.length 2 (F2 L) ccE none], [false, false, false, false], allW⟩ (fun v m => (renA [0, 1, 2, 3, 4, 18] v, ([0, 1, 2, 3, 4, 18] : List Nat).map fun l => (m.H[l]?).bind (renI [0, 1, 2, 3, 4, 18])) = (some (.int .i64 true 0), ([AIt.cells [.gsl .any 5 0 (List.length L2), .bool true true] t0, AIt.cells [.rsl (k + 1) (List.length (M3.K (List.getD X k zM))) c] t1, AIt.cells [.ptr 0 0] t2, AIt.cells [.int .i64 false at0] t3, AIt.row (List.length L) 2 (F2 L2) ccE none, AIt.row (List.length L2) 2 (F2 (storeC L2 (Int.toNat at0) (M3.K (List.getD X k zM)) (List.length (M3.K (List.getD X k zM))))) ccE none] : Mem).map some))) := ev_wayP (by kernel_rfl) h
theorem rc_l1 (R : Rws) (L : List C2) (at0 N nn ee : Int) (t0 t1 t2 t3 t4 : TypeId) (h : AllE [(decide (at0 < 0), true)]) : Is (evCall (EG R false (tRV nn ee) []) 60 50 [.ptr 0 0, .int .i64 false at0, .int .i64 false N, .func (.func 53) [.ptr 1 0, .ptr 2 0, .ptr 3 0, .ptr 4 0]] ⟨[.cells [.gsl .any 5 0 L.length, .bool true true] t0, .cells [.int .i64 false N] t1, .cells [.ptr 0 0] t2, .cells [.int .i64 false at0] t3, .cells [.raw (.slice none 0 0)] t4, .row L.length 2 (F2 L) ccE none], [true], allW⟩ (fun v m => (renA [0, 1, 2, 3, 4, 5] v, ([0, 1, 2, 3, 4, 5] : List Nat).map fun l => (m.H[l]?).bind (renI [0, 1, 2, 3, 4, 5])) = (some (.int .i64 true 2), ([AIt.cells [.gsl .any 5 0 (List.length L), .bool true true] t0, AIt.cells [.int .i64 false N] t1, AIt.cells [.ptr 0 0] t2, AIt.cells [.int .i64 false at0] t3, AIt.cells [.raw (Value.slice none 0 0)] t4, AIt.row (List.length L) 2 (F2 L) ccE none] : Mem).map some))) := ev_wayP (by kernel_rfl) h
theorem rc_l2 (R : Rws) (L : List C2) (at0 N nn ee : Int) (t0 t1 t2 t3 t4 : TypeId) (h : AllE [(decide (at0 < 0), false), (decide (N < 0), true)]) : Is (evCall (EG R false (tRV nn ee) []) 60 50 [.ptr 0 0, .int .i64 false at0, .int .i64 false N, .func (.func 53) [.ptr 1 0, .ptr 2 0, .ptr 3 0, .ptr 4 0]] ⟨[.cells [.gsl .any 5 0 L.length, .bool true true] t0, .cells [.int .i64 false N] t1, .cells [.ptr 0 0] t2, .cells [.int .i64 false at0] t3, .cells [.raw (.slice none 0 0)] t4, .row L.length 2 (F2 L) ccE none], [false, true], allW⟩ (fun v m => (renA [0, 1, 2, 3, 4, 5] v, ([0, 1, 2, 3, 4, 5] : List Nat).map fun l => (m.H[l]?).bind (renI [0, 1, 2, 3, 4, 5])) = (some (.int .i64 true 2), ([AIt.cells [.gsl .any 5 0 (List.length L), .bool true true] t0, AIt.cells [.int .i64 false N] t1, AIt.cells [.ptr 0 0] t2, AIt.cells [.int .i64 false at0] t3, AIt.cells [.raw (Value.slice none 0 0)] t4, AIt.row (List.length L) 2 (F2 L) ccE none] : Mem).map some))) := ev_wayP (by kernel_rfl) h
theorem rc_l3 (R : Rws) (L : List C2) (at0 N nn ee : Int) (t0 t1 t2 t3 t4 : TypeId) (h : AllE [(decide (at0 < 0), false), (decide (N < 0), false), (decide (0 ≤ IntKind.wrap IntKind.u64 at0 ∧ IntKind.wrap IntKind.u64 at0 < 18446744073709551616), true), (decide (0 ≤ IntKind.wrap IntKind.u64 N ∧ IntKind.wrap IntKind.u64 N < 18446744073709551616), true), (decide (reachN (IntKind.wrap IntKind.i64 (Int.tdiv (↑(List.length L) : Int) 32)) (BitVec.ofInt 256 (IntKind.wrap IntKind.u64 at0)) (BitVec.ofInt 256 (IntKind.wrap IntKind.u64 N)) = nn ∧ reachE (IntKind.wrap IntKind.i64 (Int.tdiv (↑(List.length L) : Int) 32)) (BitVec.ofInt 256 (IntKind.wrap IntKind.u64 at0)) (BitVec.ofInt 256 (IntKind.wrap IntKind.u64 N)) = ee), true), (ee != 0, true)]) : Is (evCall (EG R false (tRV nn ee) []) 60 50 [.ptr 0 0, .int .i64 false at0, .int .i64 false N, .func (.func 53) [.ptr 1 0, .ptr 2 0, .ptr 3 0, .ptr 4 0]] ⟨[.cells [.gsl .any 5 0 L.length, .bool true true] t0, .cells [.int .i64 false N] t1, .cells [.ptr 0 0] t2, .cells [.int .i64 false at0] t3, .cells [.raw (.slice none 0 0)] t4, .row L.length 2 (F2 L) ccE none], [false, false, true], allW⟩ (fun v m => (renA [0, 1, 2, 3, 4, 5] v, ([0, 1, 2, 3, 4, 5] : List Nat).map fun l => (m.H[l]?).bind (renI [0, 1, 2, 3, 4, 5])) = (some (.int .i64 true 4), ([AIt.cells [.gsl .any 5 0 (List.length L), .bool true true] t0, AIt.cells [.int .i64 false N] t1, AIt.cells [.ptr 0 0] t2, AIt.cells [.int .i64 false at0] t3, AIt.cells [.raw (Value.slice none 0 0)] t4, AIt.row (List.length L) 2 (F2 L) ccE none] : Mem).map some))) := ev_wayP (by kernel_rfl) h
theorem rc_l4 (R : Rws) (L : List C2) (at0 N nn ee : Int) (t0 t1 t2 t3 t4 : TypeId) (h : AllE [(decide (at0 < 0), false), (decide (N < 0), false), (decide (0 ≤ IntKind.wrap IntKind.u64 at0 ∧ IntKind.wrap IntKind.u64 at0 < 18446744073709551616), true), (decide (0 ≤ IntKind.wrap IntKind.u64 N ∧ IntKind.wrap IntKind.u64 N < 18446744073709551616), true), (decide (reachN (IntKind.wrap IntKind.i64 (Int.tdiv (↑(List.length L) : Int) 32)) (BitVec.ofInt 256 (IntKind.wrap IntKind.u64 at0)) (BitVec.ofInt 256 (IntKind.wrap IntKind.u64 N)) = nn ∧ reachE (IntKind.wrap IntKind.i64 (Int.tdiv (↑(List.length L) : Int) 32)) (BitVec.ofInt 256 (IntKind.wrap IntKind.u64 at0)) (BitVec.ofInt 256 (IntKind.wrap IntKind.u64 N)) = ee), true), (ee != 0, false), (decide (0 ≤ IntKind.wrap IntKind.u64 at0 ∧ IntKind.wrap IntKind.u64 at0 < 18446744073709551616), true), (decide (0 ≤ IntKind.wrap IntKind.u64 N ∧ IntKind.wrap IntKind.u64 N < 18446744073709551616), true), (decide (reachN (IntKind.wrap IntKind.i64 (Int.tdiv (↑(List.length L) : Int) 32)) (BitVec.ofInt 256 (IntKind.wrap IntKind.u64 at0)) (BitVec.ofInt 256 (IntKind.wrap IntKind.u64 N)) = nn ∧ reachE (IntKind.wrap IntKind.i64 (Int.tdiv (↑(List.length L) : Int) 32)) (BitVec.ofInt 256 (IntKind.wrap IntKind.u64 at0)) (BitVec.ofInt 256 (IntKind.wrap IntKind.u64 N)) = ee), true), (decide (nn > IntKind.wrap IntKind.i64 (Int.tdiv (↑(List.length L) : Int) 32)), true), (decide (List.length L ≤ 1000000), true), (decide (0 + List.length L ≤ List.length L), true), (decide (List.length L ≤ List.length L), true), (decide (0 ≤ IntKind.wrap IntKind.i64 (IntKind.wrap IntKind.i64 (32 * nn) - (↑(List.length L) : Int))), true), (decide (List.length L + Int.toNat (IntKind.wrap IntKind.i64 (IntKind.wrap IntKind.i64 (32 * nn) - (↑(List.length L) : Int))) ≤ 1000000), true), (decide (N > 0), true), (decide (0 ≤ at0 ∧ at0 ≤ IntKind.wrap IntKind.i64 (at0 + N) ∧ IntKind.wrap IntKind.i64 (at0 + N) ≤ (↑(List.length L + Int.toNat (IntKind.wrap IntKind.i64 (IntKind.wrap IntKind.i64 (32 * nn) - (↑(List.length L) : Int)))) : Int)), true), (decide (IntKind.wrap IntKind.i64 (at0 + N) = IntKind.wrap IntKind.i64 (at0 + N)), true), (decide (Int.toNat (IntKind.wrap IntKind.i64 (at0 + N) - at0) ≤ 1000000), true), (decide (0 + Int.toNat at0 + Int.toNat (IntKind.wrap IntKind.i64 (at0 + N) - at0) ≤ List.length L + Int.toNat (IntKind.wrap IntKind.i64 (IntKind.wrap IntKind.i64 (32 * nn) - (↑(List.length L) : Int)))), true)]) : Is (evCall (EG R false (tRV nn ee) []) 60 50 [.ptr 0 0, .int .i64 false at0, .int .i64 false N, .func (.func 53) [.ptr 1 0, .ptr 2 0, .ptr 3 0, .ptr 4 0]] ⟨[.cells [.gsl .any 5 0 L.length, .bool true true] t0, .cells [.int .i64 false N] t1, .cells [.ptr 0 0] t2, .cells [.int .i64 false at0] t3, .cells [.raw (.slice none 0 0)] t4, .row L.length 2 (F2 L) ccE none], [false, false, false, true, true], allW⟩ (fun v m => (renA [0, 1, 2, 3, 4, 5, 21, 23] v, ([0, 1, 2, 3, 4, 5, 21, 23] : List Nat).map fun l => (m.H[l]?).bind (renI [0, 1, 2, 3, 4, 5, 21, 23])) = (some (.int .i64 true 0), ([AIt.cells [.gsl .top 6 0 (List.length L + Int.toNat (IntKind.wrap .i64 (IntKind.wrap .i64 (32 * nn) - (↑(List.length L) : Int)))), .bool true true] t0, AIt.cells [.int .i64 false N] t1, AIt.cells [.ptr 0 0] t2, AIt.cells [.int .i64 false at0] t3, AIt.cells [.gsl .top 7 0 (Int.toNat (IntKind.wrap .i64 (at0 + N) - at0))] t4, AIt.row (List.length L) 2 (F2 L) ccE none, .row (L.length + Int.toNat (IntKind.wrap IntKind.i64 (IntKind.wrap IntKind.i64 (32 * nn) - (L.length : Int)))) 2 (fun j => bif Nat.blt j L.length then F2 L (0 + j) else AV.ofCells (Array.toList (Value.cells (Value.agg #[Value.int IntKind.u8 0, Value.int IntKind.u64 0])))) ccE none, .row (Int.toNat (IntKind.wrap IntKind.i64 (at0 + N) - at0)) 2 (fun i => bif Nat.blt (0 + Int.toNat at0 + i) L.length then F2 L (0 + (0 + Int.toNat at0 + i)) else AV.ofCells (Array.toList (Value.cells (Value.agg #[Value.int IntKind.u8 0, Value.int IntKind.u64 0])))) ccE none] : Mem).map some))) := ev_wayP (by kernel_rfl) h
theorem rc_l6 (R : Rws) (L : List C2) (at0 N nn ee : Int) (t0 t1 t2 t3 t4 : TypeId) (h : AllE [(decide (at0 < 0), false), (decide (N < 0), false), (decide (0 ≤ IntKind.wrap IntKind.u64 at0 ∧ IntKind.wrap IntKind.u64 at0 < 18446744073709551616), true), (decide (0 ≤ IntKind.wrap IntKind.u64 N ∧ IntKind.wrap IntKind.u64 N < 18446744073709551616), true), (decide (reachN (IntKind.wrap IntKind.i64 (Int.tdiv (↑(List.length L) : Int) 32)) (BitVec.ofInt 256 (IntKind.wrap IntKind.u64 at0)) (BitVec.ofInt 256 (IntKind.wrap IntKind.u64 N)) = nn ∧ reachE (IntKind.wrap IntKind.i64 (Int.tdiv (↑(List.length L) : Int) 32)) (BitVec.ofInt 256 (IntKind.wrap IntKind.u64 at0)) (BitVec.ofInt 256 (IntKind.wrap IntKind.u64 N)) = ee), true), (ee != 0, false), (decide (0 ≤ IntKind.wrap IntKind.u64 at0 ∧ IntKind.wrap IntKind.u64 at0 < 18446744073709551616), true), (decide (0 ≤ IntKind.wrap IntKind.u64 N ∧ IntKind.wrap IntKind.u64 N < 18446744073709551616), true), (decide (reachN (IntKind.wrap IntKind.i64 (Int.tdiv (↑(List.length L) : Int) 32)) (BitVec.ofInt 256 (IntKind.wrap IntKind.u64 at0)) (BitVec.ofInt 256 (IntKind.wrap IntKind.u64 N)) = nn ∧ reachE (IntKind.wrap IntKind.i64 (Int.tdiv (↑(List.length L) : Int) 32)) (BitVec.ofInt 256 (IntKind.wrap IntKind.u64 at0)) (BitVec.ofInt 256 (IntKind.wrap IntKind.u64 N)) = ee), true), (decide (nn > IntKind.wrap IntKind.i64 (Int.tdiv (↑(List.length L) : Int) 32)), false), (decide (N > 0), true), (decide (0 ≤ at0 ∧ at0 ≤ IntKind.wrap IntKind.i64 (at0 + N) ∧ IntKind.wrap IntKind.i64 (at0 + N) ≤ (↑(List.length L) : Int)), true), (decide (IntKind.wrap IntKind.i64 (at0 + N) = IntKind.wrap IntKind.i64 (at0 + N)), true), (decide (Int.toNat (IntKind.wrap IntKind.i64 (at0 + N) - at0) ≤ 1000000), true), (decide (0 + Int.toNat at0 + Int.toNat (IntKind.wrap IntKind.i64 (at0 + N) - at0) ≤ List.length L), true)]) : Is (evCall (EG R false (tRV nn ee) []) 60 50 [.ptr 0 0, .int .i64 false at0, .int .i64 false N, .func (.func 53) [.ptr 1 0, .ptr 2 0, .ptr 3 0, .ptr 4 0]] ⟨[.cells [.gsl .any 5 0 L.length, .bool true true] t0, .cells [.int .i64 false N] t1, .cells [.ptr 0 0] t2, .cells [.int .i64 false at0] t3, .cells [.raw (.slice none 0 0)] t4, .row L.length 2 (F2 L) ccE none], [false, false, false, false, true], allW⟩ (fun v m => (renA [0, 1, 2, 3, 4, 5, 20] v, ([0, 1, 2, 3, 4, 5, 20] : List Nat).map fun l => (m.H[l]?).bind (renI [0, 1, 2, 3, 4, 5, 20])) = (some (.int .i64 true 0), ([AIt.cells [.gsl .any 5 0 (List.length L), .bool true true] t0, AIt.cells [.int .i64 false N] t1, AIt.cells [.ptr 0 0] t2, AIt.cells [.int .i64 false at0] t3, AIt.cells [.gsl .top 6 0 (Int.toNat (IntKind.wrap .i64 (at0 + N) - at0))] t4, AIt.row (List.length L) 2 (F2 L) ccE none, .row (Int.toNat (IntKind.wrap IntKind.i64 (at0 + N) - at0)) 2 (fun i => F2 L (0 + Int.toNat at0 + i)) ccE none] : Mem).map some))) := ev_wayP (by kernel_rfl) h
theorem rc_l7 (R : Rws) (L : List C2) (at0 N nn ee : Int) (t0 t1 t2 t3 t4 : TypeId) (h : AllE [(decide (at0 < 0), false), (decide (N < 0), false), (decide (0 ≤ IntKind.wrap IntKind.u64 at0 ∧ IntKind.wrap IntKind.u64 at0 < 18446744073709551616), true), (decide (0 ≤ IntKind.wrap IntKind.u64 N ∧ IntKind.wrap IntKind.u64 N < 18446744073709551616), true), (decide (reachN (IntKind.wrap IntKind.i64 (Int.tdiv (↑(List.length L) : Int) 32)) (BitVec.ofInt 256 (IntKind.wrap IntKind.u64 at0)) (BitVec.ofInt 256 (IntKind.wrap IntKind.u64 N)) = nn ∧ reachE (IntKind.wrap IntKind.i64 (Int.tdiv (↑(List.length L) : Int) 32)) (BitVec.ofInt 256 (IntKind.wrap IntKind.u64 at0)) (BitVec.ofInt 256 (IntKind.wrap IntKind.u64 N)) = ee), true), (ee != 0, false), (decide (0 ≤ IntKind.wrap IntKind.u64 at0 ∧ IntKind.wrap IntKind.u64 at0 < 18446744073709551616), true), (decide (0 ≤ IntKind.wrap IntKind.u64 N ∧ IntKind.wrap IntKind.u64 N < 18446744073709551616), true), (decide (reachN (IntKind.wrap IntKind.i64 (Int.tdiv (↑(List.length L) : Int) 32)) (BitVec.ofInt 256 (IntKind.wrap IntKind.u64 at0)) (BitVec.ofInt 256 (IntKind.wrap IntKind.u64 N)) = nn ∧ reachE (IntKind.wrap IntKind.i64 (Int.tdiv (↑(List.length L) : Int) 32)) (BitVec.ofInt 256 (IntKind.wrap IntKind.u64 at0)) (BitVec.ofInt 256 (IntKind.wrap IntKind.u64 N)) = ee), true), (decide (nn > IntKind.wrap IntKind.i64 (Int.tdiv (↑(List.length L) : Int) 32)), false), (decide (N > 0), false)]) : Is (evCall (EG R false (tRV nn ee) []) 60 50 [.ptr 0 0, .int .i64 false at0, .int .i64 false N, .func (.func 53) [.ptr 1 0, .ptr 2 0, .ptr 3 0, .ptr 4 0]] ⟨[.cells [.gsl .any 5 0 L.length, .bool true true] t0, .cells [.int .i64 false N] t1, .cells [.ptr 0 0] t2, .cells [.int .i64 false at0] t3, .cells [.raw (.slice none 0 0)] t4, .row L.length 2 (F2 L) ccE none], [false, false, false, false, false], allW⟩ (fun v m => (renA [0, 1, 2, 3, 4, 5] v, ([0, 1, 2, 3, 4, 5] : List Nat).map fun l => (m.H[l]?).bind (renI [0, 1, 2, 3, 4, 5])) = (some (.int .i64 true 0), ([AIt.cells [.gsl .any 5 0 (List.length L), .bool true true] t0, AIt.cells [.int .i64 false N] t1, AIt.cells [.ptr 0 0] t2, AIt.cells [.int .i64 false at0] t3, AIt.cells [.raw (Value.slice none 0 0)] t4, AIt.row (List.length L) 2 (F2 L) ccE none] : Mem).map some))) := ev_wayP (by kernel_rfl) h
end Go.Proofs.Ytcfomhnfhalmaaa
end

section
set_option linter.unusedVariables false
set_option linter.unusedSimpArgs false
end

section
set_option linter.unusedVariables false
set_option linter.unusedSimpArgs false
set_option maxRecDepth 100000
namespace Go.Proofs.Ytcfomhnfhalmaaa
open Go.RowKit

/-- What is known: the labels' blocks were made by the call (n0 on), below B or since V0 or else frozen; what S holds and what lies from B on is as it was at V0. -/
structure It (R : Rws) (base : Nums) (n0 : Nat) (S0 S : Nat → Prop) (B : Nat) (fz : List Nat) (V0 : World) (J : World → Prop) (H : Mem) (Hr : List RBlk) (V : World) : Prop where
  own : OwnK R H Hr V
  lab : ∀ (l : Nat) (q : Num), (nums Hr)[l]? = some q → q.ph = false → (n0 ≤ q.b ∧ (q.b < B ∨ V0.heap.size ≤ q.b ∨ memN l fz = true)) ∨ (S0 q.b ∧ memN l fz = true)
  n0v : n0 ≤ V0.heap.size
  sv : ∀ k, S k → k < V0.heap.size
  frz : ∀ k, S k → ∀ (l : Nat) (q : Num), (nums Hr)[l]? = some q → q.ph = false → q.b = k → memN l fz = true
  keep : Keep (fun b => S b ∨ B ≤ b) V0 V
  ext : ∃ σ, nums Hr = base ++ σ
  j : J V
end Go.Proofs.Ytcfomhnfhalmaaa
end

section
set_option linter.unusedVariables false
set_option linter.unusedSimpArgs false
namespace Go.Proofs.Ytcfomhnfhalmaaa
open Go.RowKit
attribute [local go_sem] Oper.semAt_some
end Go.Proofs.Ytcfomhnfhalmaaa
end

section
set_option linter.unusedVariables false
set_option linter.unusedSimpArgs false
set_option maxRecDepth 100000
end

section
set_option linter.unusedVariables false
set_option linter.unusedSimpArgs false
set_option maxRecDepth 100000
namespace Go.Proofs.Ytcfomhnfhalmaaa
open Go.RowKit

noncomputable def wkq0 : Code := (Try.f8.body.getD .skip)
noncomputable def wkq1 : Code := sR wkq0
noncomputable def wkq2 : Code := sR wkq1
noncomputable def wkq3 : Code := sR wkq2
noncomputable def wkq4 : Code := sR wkq3
noncomputable def wkq5 : Code := sR wkq4
noncomputable def wkq6 : Code := sR wkq5
noncomputable def wkq7 : Code := sR wkq6
noncomputable def wkq8 : Code := sR wkq7
noncomputable def wkq9 : Code := sR wkq8
noncomputable def wkq10 : Code := sR wkq9
noncomputable abbrev wkN : Nat := Try.f8.ntmps
noncomputable def wkT0 : List TIt := []
noncomputable def wkT1 : List TIt := []
theorem wk_0 : ∀ r, Is (evT (EG noRows true [] []) 60 (.code (sL wkq0)) ⟨pat [] r 0 wkN, ⟨wkT0.map TIt.real, [], allW⟩⟩ (selT [] .normal [(0, .bool true false)] wkN wkT1)) := fun r => ev_eq ([].map fun b => (b, b)) (selTR [(0, .bool true false)] wkN wkT1) (by kernel_rfl) (allE_same [])
noncomputable def wkT2 : List TIt := [.row 2 5 cvE none [[.int .u64 true 1, .int .u64 true 0, .int .u64 true 0, .int .u64 true 0, .int .u64 true 0], [.int .u64 true 2, .int .u64 true 0, .int .u64 true 0, .int .u64 true 0, .int .u64 true 0]], .it (.cells [.gsl .top 0 0 2, .bool true true] 74)]
theorem wk_1 : ∀ r, Is (evT (EG noRows true [] []) 60 (.code (sL wkq1)) ⟨pat [(0, .bool true false)] r 0 wkN, ⟨wkT1.map TIt.real, [], allW⟩⟩ (selT [6, 7] .normal [(0, .bool true false), (1, .ptr 1 0), (2, .int .i64 true 0)] wkN wkT2)) := fun r => ev_eq ([true].map fun b => (b, b)) (selTR [(0, .bool true false), (1, .ptr 1 0), (2, .int .i64 true 0)] wkN wkT2) (by kernel_rfl) (allE_same [true])
noncomputable def wkT3 : List TIt := [.it (.cells [.gsl .top 1 0 3, .bool true true] 74), .row 3 5 cvE none [[.int .u64 true 1, .int .u64 true 0, .int .u64 true 0, .int .u64 true 0, .int .u64 true 0], [.int .u64 true 1, .int .u64 true 0, .int .u64 true 0, .int .u64 true 0, .int .u64 true 0], [.int .u64 true 2, .int .u64 true 0, .int .u64 true 0, .int .u64 true 0, .int .u64 true 0]]]
theorem wk_2 : ∀ r, Is (evT (EG noRows true [] []) 60 (.code (sL wkq2)) ⟨pat [(0, .bool true false), (1, .ptr 1 0), (2, .int .i64 true 0)] r 0 wkN, ⟨wkT2.map TIt.real, [false, false, false], allW⟩⟩ (selT [1, 36] .normal [(0, .bool true false), (1, .ptr 0 0), (3, .int .i64 true 0)] wkN wkT3)) := fun r => ev_eq ([false, true, true, false, true, true, true, true, false, true, true, true, true, true, true, true, true, true, true].map fun b => (b, b)) (selTR [(0, .bool true false), (1, .ptr 0 0), (3, .int .i64 true 0)] wkN wkT3) (by kernel_rfl) (allE_same [false, true, true, false, true, true, true, true, false, true, true, true, true, true, true, true, true, true, true])
noncomputable def wkT4 : List TIt := [.it (.cells [.gsl .full 1 0 0, .bool true true] 74), .row 3 5 cvE none [[.int .u64 true 1, .int .u64 true 0, .int .u64 true 0, .int .u64 true 0, .int .u64 true 0], [.int .u64 true 1, .int .u64 true 0, .int .u64 true 0, .int .u64 true 0, .int .u64 true 0], [.int .u64 true 2, .int .u64 true 0, .int .u64 true 0, .int .u64 true 0, .int .u64 true 0]], .row 3 5 cvE none [[.int .u64 true 2, .int .u64 true 0, .int .u64 true 0, .int .u64 true 0, .int .u64 true 0], [.int .u64 true 1, .int .u64 true 0, .int .u64 true 0, .int .u64 true 0, .int .u64 true 0], [.int .u64 true 1, .int .u64 true 0, .int .u64 true 0, .int .u64 true 0, .int .u64 true 0]]]
theorem wk_3 : ∀ r, Is (evT (EG noRows true [] []) 60 (.code (sL wkq3)) ⟨pat [(0, .bool true false), (1, .ptr 0 0), (3, .int .i64 true 0)] r 0 wkN, ⟨wkT3.map TIt.real, [false, true, false], allW⟩⟩ (selT [0, 1, 12] .normal [(0, .bool true false), (1, .ptr 0 0), (3, .int .i64 true 0), (4, .gsl .top 2 0 3), (5, .int .i64 true 0)] wkN wkT4)) := fun r => ev_eq ([false, true, true, true, true, true, true, true, true, true, true, true, true, true, true, false].map fun b => (b, b)) (selTR [(0, .bool true false), (1, .ptr 0 0), (3, .int .i64 true 0), (4, .gsl .top 2 0 3), (5, .int .i64 true 0)] wkN wkT4) (by kernel_rfl) (allE_same [false, true, true, true, true, true, true, true, true, true, true, true, true, true, true, false])
noncomputable def wkT5 : List TIt := [.it (.cells [.gsl .full 1 0 0, .bool true true] 74), .row 3 5 cvE none [[.int .u64 true 1, .int .u64 true 0, .int .u64 true 0, .int .u64 true 0, .int .u64 true 0], [.int .u64 true 1, .int .u64 true 0, .int .u64 true 0, .int .u64 true 0, .int .u64 true 0], [.int .u64 true 2, .int .u64 true 0, .int .u64 true 0, .int .u64 true 0, .int .u64 true 0]], .row 3 5 cvE none [[.int .u64 true 2, .int .u64 true 0, .int .u64 true 0, .int .u64 true 0, .int .u64 true 0], [.int .u64 true 1, .int .u64 true 0, .int .u64 true 0, .int .u64 true 0, .int .u64 true 0], [.int .u64 true 1, .int .u64 true 0, .int .u64 true 0, .int .u64 true 0, .int .u64 true 0]]]
theorem wk_4 : ∀ r, Is (evT (EG noRows true [] []) 60 (.code (sL wkq4)) ⟨pat [(0, .bool true false), (1, .ptr 0 0), (3, .int .i64 true 0), (4, .gsl .top 2 0 3), (5, .int .i64 true 0)] r 0 wkN, ⟨wkT4.map TIt.real, [true], allW⟩⟩ (selT [0, 1, 2] .normal [(0, .bool true false), (1, .ptr 0 0), (3, .int .i64 true 0), (4, .gsl .top 2 0 3), (5, .int .i64 true 0), (7, .int .i64 true 370)] wkN wkT5)) := fun r => ev_eq ([true].map fun b => (b, b)) (selTR [(0, .bool true false), (1, .ptr 0 0), (3, .int .i64 true 0), (4, .gsl .top 2 0 3), (5, .int .i64 true 0), (7, .int .i64 true 370)] wkN wkT5) (by kernel_rfl) (allE_same [true])
noncomputable def wkT6 : List TIt := [.it (.cells [.gsl .full 1 0 0, .bool true true] 74), .row 3 5 cvE none [[.int .u64 true 1, .int .u64 true 0, .int .u64 true 0, .int .u64 true 0, .int .u64 true 0], [.int .u64 true 1, .int .u64 true 0, .int .u64 true 0, .int .u64 true 0, .int .u64 true 0], [.int .u64 true 2, .int .u64 true 0, .int .u64 true 0, .int .u64 true 0, .int .u64 true 0]], .row 3 5 cvE none [[.int .u64 true 2, .int .u64 true 0, .int .u64 true 0, .int .u64 true 0, .int .u64 true 0], [.int .u64 true 1, .int .u64 true 0, .int .u64 true 0, .int .u64 true 0, .int .u64 true 0], [.int .u64 true 1, .int .u64 true 0, .int .u64 true 0, .int .u64 true 0, .int .u64 true 0]], .it (.cells [.raw (Value.slice none 0 0), .bool true true] 57)]
theorem wk_5 : ∀ r, Is (evT (EG noRows true [] []) 60 (.code (sL wkq5)) ⟨pat [(0, .bool true false), (1, .ptr 0 0), (3, .int .i64 true 0), (4, .gsl .top 2 0 3), (5, .int .i64 true 0), (7, .int .i64 true 370)] r 0 wkN, ⟨wkT5.map TIt.real, [], allW⟩⟩ (selT [0, 1, 2, 3] .normal [(0, .bool true false), (1, .ptr 0 0), (3, .int .i64 true 0), (4, .gsl .top 2 0 3), (5, .int .i64 true 0), (7, .int .i64 true 370), (8, .ptr 3 0)] wkN wkT6)) := fun r => ev_eq ([].map fun b => (b, b)) (selTR [(0, .bool true false), (1, .ptr 0 0), (3, .int .i64 true 0), (4, .gsl .top 2 0 3), (5, .int .i64 true 0), (7, .int .i64 true 370), (8, .ptr 3 0)] wkN wkT6) (by kernel_rfl) (allE_same [])
noncomputable def wkT7 : List TIt := [.it (.cells [.gsl .full 1 0 0, .bool true true] 74), .row 3 5 cvE none [[.int .u64 true 1, .int .u64 true 0, .int .u64 true 0, .int .u64 true 0, .int .u64 true 0], [.int .u64 true 1, .int .u64 true 0, .int .u64 true 0, .int .u64 true 0, .int .u64 true 0], [.int .u64 true 2, .int .u64 true 0, .int .u64 true 0, .int .u64 true 0, .int .u64 true 0]], .row 3 5 cvE none [[.int .u64 true 2, .int .u64 true 0, .int .u64 true 0, .int .u64 true 0, .int .u64 true 0], [.int .u64 true 1, .int .u64 true 0, .int .u64 true 0, .int .u64 true 0, .int .u64 true 0], [.int .u64 true 1, .int .u64 true 0, .int .u64 true 0, .int .u64 true 0, .int .u64 true 0]], .it (.cells [.gsl .top 4 0 64, .bool true true] 57), .row 64 2 ccE none [[.int .u8 true 0, .int .u64 true 0], [.int .u8 true 0, .int .u64 true 0], [.int .u8 true 0, .int .u64 true 0], [.int .u8 true 0, .int .u64 true 0], [.int .u8 true 0, .int .u64 true 0], [.int .u8 true 0, .int .u64 true 0], [.int .u8 true 0, .int .u64 true 0], [.int .u8 true 0, .int .u64 true 0], [.int .u8 true 0, .int .u64 true 0], [.int .u8 true 0, .int .u64 true 0], [.int .u8 true 0, .int .u64 true 0], [.int .u8 true 0, .int .u64 true 0], [.int .u8 true 0, .int .u64 true 0], [.int .u8 true 0, .int .u64 true 0], [.int .u8 true 0, .int .u64 true 0], [.int .u8 true 0, .int .u64 true 0], [.int .u8 true 0, .int .u64 true 0], [.int .u8 true 0, .int .u64 true 0], [.int .u8 true 0, .int .u64 true 0], [.int .u8 true 0, .int .u64 true 0], [.int .u8 true 0, .int .u64 true 0], [.int .u8 true 0, .int .u64 true 0], [.int .u8 true 0, .int .u64 true 0], [.int .u8 true 0, .int .u64 true 0], [.int .u8 true 0, .int .u64 true 0], [.int .u8 true 0, .int .u64 true 0], [.int .u8 true 0, .int .u64 true 0], [.int .u8 true 0, .int .u64 true 0], [.int .u8 true 0, .int .u64 true 0], [.int .u8 true 0, .int .u64 true 0], [.int .u8 true 0, .int .u64 true 0], [.int .u8 true 5, .int .u64 true 1], [.int .u8 true 6, .int .u64 true 0], [.int .u8 true 0, .int .u64 true 0], [.int .u8 true 0, .int .u64 true 0], [.int .u8 true 0, .int .u64 true 0], [.int .u8 true 0, .int .u64 true 0], [.int .u8 true 0, .int .u64 true 0], [.int .u8 true 0, .int .u64 true 0], [.int .u8 true 0, .int .u64 true 0], [.int .u8 true 0, .int .u64 true 0], [.int .u8 true 0, .int .u64 true 0], [.int .u8 true 0, .int .u64 true 0], [.int .u8 true 0, .int .u64 true 0], [.int .u8 true 0, .int .u64 true 0], [.int .u8 true 0, .int .u64 true 0], [.int .u8 true 0, .int .u64 true 0], [.int .u8 true 0, .int .u64 true 0], [.int .u8 true 0, .int .u64 true 0], [.int .u8 true 0, .int .u64 true 0], [.int .u8 true 0, .int .u64 true 0], [.int .u8 true 0, .int .u64 true 0], [.int .u8 true 0, .int .u64 true 0], [.int .u8 true 0, .int .u64 true 0], [.int .u8 true 0, .int .u64 true 0], [.int .u8 true 0, .int .u64 true 0], [.int .u8 true 0, .int .u64 true 0], [.int .u8 true 0, .int .u64 true 0], [.int .u8 true 0, .int .u64 true 0], [.int .u8 true 0, .int .u64 true 0], [.int .u8 true 0, .int .u64 true 0], [.int .u8 true 0, .int .u64 true 0], [.int .u8 true 0, .int .u64 true 0], [.int .u8 true 0, .int .u64 true 0]]]
theorem wk_6 : ∀ r, Is (evT (EG noRows true [] []) 60 (.code (sL wkq6)) ⟨pat [(0, .bool true false), (1, .ptr 0 0), (3, .int .i64 true 0), (4, .gsl .top 2 0 3), (5, .int .i64 true 0), (7, .int .i64 true 370), (8, .ptr 3 0)] r 0 wkN, ⟨wkT6.map TIt.real, [], allW⟩⟩ (selT [0, 1, 2, 3, 25] .normal [(0, .bool true false), (1, .ptr 0 0), (3, .int .i64 true 0), (4, .gsl .top 2 0 3), (7, .int .i64 true 370), (8, .ptr 3 0)] wkN wkT7)) := fun r => ev_eq ([true, true, true, true, true, true, true, true, true, true, true, true, true].map fun b => (b, b)) (selTR [(0, .bool true false), (1, .ptr 0 0), (3, .int .i64 true 0), (4, .gsl .top 2 0 3), (7, .int .i64 true 370), (8, .ptr 3 0)] wkN wkT7) (by kernel_rfl) (allE_same [true, true, true, true, true, true, true, true, true, true, true, true, true])
noncomputable def wkT8 : List TIt := [.it (.cells [.gsl .full 1 0 0, .bool true true] 74), .row 3 5 cvE none [[.int .u64 true 1, .int .u64 true 0, .int .u64 true 0, .int .u64 true 0, .int .u64 true 0], [.int .u64 true 1, .int .u64 true 0, .int .u64 true 0, .int .u64 true 0, .int .u64 true 0], [.int .u64 true 2, .int .u64 true 0, .int .u64 true 0, .int .u64 true 0, .int .u64 true 0]], .row 3 5 cvE none [[.int .u64 true 2, .int .u64 true 0, .int .u64 true 0, .int .u64 true 0, .int .u64 true 0], [.int .u64 true 1, .int .u64 true 0, .int .u64 true 0, .int .u64 true 0, .int .u64 true 0], [.int .u64 true 1, .int .u64 true 0, .int .u64 true 0, .int .u64 true 0, .int .u64 true 0]], .it (.cells [.gsl .top 4 0 64, .bool true true] 57), .row 64 2 ccE none [[.int .u8 true 0, .int .u64 true 0], [.int .u8 true 0, .int .u64 true 0], [.int .u8 true 0, .int .u64 true 0], [.int .u8 true 0, .int .u64 true 0], [.int .u8 true 0, .int .u64 true 0], [.int .u8 true 0, .int .u64 true 0], [.int .u8 true 0, .int .u64 true 0], [.int .u8 true 0, .int .u64 true 0], [.int .u8 true 0, .int .u64 true 0], [.int .u8 true 0, .int .u64 true 0], [.int .u8 true 0, .int .u64 true 0], [.int .u8 true 0, .int .u64 true 0], [.int .u8 true 0, .int .u64 true 0], [.int .u8 true 0, .int .u64 true 0], [.int .u8 true 0, .int .u64 true 0], [.int .u8 true 0, .int .u64 true 0], [.int .u8 true 0, .int .u64 true 0], [.int .u8 true 0, .int .u64 true 0], [.int .u8 true 0, .int .u64 true 0], [.int .u8 true 0, .int .u64 true 0], [.int .u8 true 0, .int .u64 true 0], [.int .u8 true 0, .int .u64 true 0], [.int .u8 true 0, .int .u64 true 0], [.int .u8 true 0, .int .u64 true 0], [.int .u8 true 0, .int .u64 true 0], [.int .u8 true 0, .int .u64 true 0], [.int .u8 true 0, .int .u64 true 0], [.int .u8 true 0, .int .u64 true 0], [.int .u8 true 0, .int .u64 true 0], [.int .u8 true 0, .int .u64 true 0], [.int .u8 true 0, .int .u64 true 0], [.int .u8 true 5, .int .u64 true 1], [.int .u8 true 6, .int .u64 true 0], [.int .u8 true 0, .int .u64 true 0], [.int .u8 true 0, .int .u64 true 0], [.int .u8 true 0, .int .u64 true 0], [.int .u8 true 0, .int .u64 true 0], [.int .u8 true 0, .int .u64 true 0], [.int .u8 true 0, .int .u64 true 0], [.int .u8 true 0, .int .u64 true 0], [.int .u8 true 0, .int .u64 true 0], [.int .u8 true 0, .int .u64 true 0], [.int .u8 true 0, .int .u64 true 0], [.int .u8 true 0, .int .u64 true 0], [.int .u8 true 0, .int .u64 true 0], [.int .u8 true 0, .int .u64 true 0], [.int .u8 true 0, .int .u64 true 0], [.int .u8 true 0, .int .u64 true 0], [.int .u8 true 0, .int .u64 true 0], [.int .u8 true 0, .int .u64 true 0], [.int .u8 true 0, .int .u64 true 0], [.int .u8 true 0, .int .u64 true 0], [.int .u8 true 0, .int .u64 true 0], [.int .u8 true 0, .int .u64 true 0], [.int .u8 true 0, .int .u64 true 0], [.int .u8 true 0, .int .u64 true 0], [.int .u8 true 0, .int .u64 true 0], [.int .u8 true 0, .int .u64 true 0], [.int .u8 true 0, .int .u64 true 0], [.int .u8 true 0, .int .u64 true 0], [.int .u8 true 0, .int .u64 true 0], [.int .u8 true 0, .int .u64 true 0], [.int .u8 true 0, .int .u64 true 0], [.int .u8 true 0, .int .u64 true 0]]]
theorem wk_7 : ∀ r, Is (evT (EG noRows true [] []) 60 (.code (sL wkq7)) ⟨pat [(0, .bool true false), (1, .ptr 0 0), (3, .int .i64 true 0), (4, .gsl .top 2 0 3), (7, .int .i64 true 370), (8, .ptr 3 0)] r 0 wkN, ⟨wkT7.map TIt.real, [], allW⟩⟩ (selT [0, 1, 2, 3, 4] .normal [(0, .bool true false), (1, .ptr 0 0), (3, .int .i64 true 0), (4, .gsl .top 2 0 3), (7, .int .i64 true 370), (8, .ptr 3 0), (9, .int .i64 false 2)] wkN wkT8)) := fun r => ev_eq ([].map fun b => (b, b)) (selTR [(0, .bool true false), (1, .ptr 0 0), (3, .int .i64 true 0), (4, .gsl .top 2 0 3), (7, .int .i64 true 370), (8, .ptr 3 0), (9, .int .i64 false 2)] wkN wkT8) (by kernel_rfl) (allE_same [])
noncomputable def wkT9 : List TIt := [.it (.cells [.gsl .full 1 0 0, .bool true true] 74), .row 3 5 cvE none [[.int .u64 true 1, .int .u64 true 0, .int .u64 true 0, .int .u64 true 0, .int .u64 true 0], [.int .u64 true 1, .int .u64 true 0, .int .u64 true 0, .int .u64 true 0, .int .u64 true 0], [.int .u64 true 2, .int .u64 true 0, .int .u64 true 0, .int .u64 true 0, .int .u64 true 0]], .row 3 5 cvE none [[.int .u64 true 2, .int .u64 true 0, .int .u64 true 0, .int .u64 true 0, .int .u64 true 0], [.int .u64 true 1, .int .u64 true 0, .int .u64 true 0, .int .u64 true 0, .int .u64 true 0], [.int .u64 true 1, .int .u64 true 0, .int .u64 true 0, .int .u64 true 0, .int .u64 true 0]], .it (.cells [.gsl .top 4 0 64, .bool true true] 57), .row 64 2 ccE none [[.int .u8 true 0, .int .u64 true 0], [.int .u8 true 0, .int .u64 true 0], [.int .u8 true 0, .int .u64 true 0], [.int .u8 true 0, .int .u64 true 0], [.int .u8 true 0, .int .u64 true 0], [.int .u8 true 0, .int .u64 true 0], [.int .u8 true 0, .int .u64 true 0], [.int .u8 true 0, .int .u64 true 0], [.int .u8 true 0, .int .u64 true 0], [.int .u8 true 0, .int .u64 true 0], [.int .u8 true 0, .int .u64 true 0], [.int .u8 true 0, .int .u64 true 0], [.int .u8 true 0, .int .u64 true 0], [.int .u8 true 0, .int .u64 true 0], [.int .u8 true 0, .int .u64 true 0], [.int .u8 true 0, .int .u64 true 0], [.int .u8 true 0, .int .u64 true 0], [.int .u8 true 0, .int .u64 true 0], [.int .u8 true 0, .int .u64 true 0], [.int .u8 true 0, .int .u64 true 0], [.int .u8 true 0, .int .u64 true 0], [.int .u8 true 0, .int .u64 true 0], [.int .u8 true 0, .int .u64 true 0], [.int .u8 true 0, .int .u64 true 0], [.int .u8 true 0, .int .u64 true 0], [.int .u8 true 0, .int .u64 true 0], [.int .u8 true 0, .int .u64 true 0], [.int .u8 true 0, .int .u64 true 0], [.int .u8 true 0, .int .u64 true 0], [.int .u8 true 0, .int .u64 true 0], [.int .u8 true 0, .int .u64 true 0], [.int .u8 true 5, .int .u64 true 1], [.int .u8 true 6, .int .u64 true 0], [.int .u8 true 0, .int .u64 true 0], [.int .u8 true 0, .int .u64 true 0], [.int .u8 true 0, .int .u64 true 0], [.int .u8 true 0, .int .u64 true 0], [.int .u8 true 0, .int .u64 true 0], [.int .u8 true 0, .int .u64 true 0], [.int .u8 true 0, .int .u64 true 0], [.int .u8 true 0, .int .u64 true 0], [.int .u8 true 0, .int .u64 true 0], [.int .u8 true 0, .int .u64 true 0], [.int .u8 true 0, .int .u64 true 0], [.int .u8 true 0, .int .u64 true 0], [.int .u8 true 0, .int .u64 true 0], [.int .u8 true 0, .int .u64 true 0], [.int .u8 true 0, .int .u64 true 0], [.int .u8 true 0, .int .u64 true 0], [.int .u8 true 0, .int .u64 true 0], [.int .u8 true 0, .int .u64 true 0], [.int .u8 true 0, .int .u64 true 0], [.int .u8 true 0, .int .u64 true 0], [.int .u8 true 0, .int .u64 true 0], [.int .u8 true 0, .int .u64 true 0], [.int .u8 true 0, .int .u64 true 0], [.int .u8 true 0, .int .u64 true 0], [.int .u8 true 0, .int .u64 true 0], [.int .u8 true 0, .int .u64 true 0], [.int .u8 true 0, .int .u64 true 0], [.int .u8 true 0, .int .u64 true 0], [.int .u8 true 0, .int .u64 true 0], [.int .u8 true 0, .int .u64 true 0], [.int .u8 true 0, .int .u64 true 0]], .row 4 2 ccE none [[.int .u8 true 0, .int .u64 true 0], [.int .u8 true 5, .int .u64 true 1], [.int .u8 true 6, .int .u64 true 0], [.int .u8 true 0, .int .u64 true 0]]]
theorem wk_8 : ∀ r, Is (evT (EG noRows true [] []) 60 (.code (sL wkq8)) ⟨pat [(0, .bool true false), (1, .ptr 0 0), (3, .int .i64 true 0), (4, .gsl .top 2 0 3), (7, .int .i64 true 370), (8, .ptr 3 0), (9, .int .i64 false 2)] r 0 wkN, ⟨wkT8.map TIt.real, [false, false], allW⟩⟩ (selT [0, 1, 2, 3, 4, 23] .normal [(0, .bool true false), (1, .ptr 0 0), (3, .int .i64 true 0), (4, .gsl .top 2 0 3), (7, .int .i64 true 370), (8, .ptr 3 0), (9, .int .i64 false 2), (10, .gsl .top 5 0 4), (11, .int .i64 true 0)] wkN wkT9)) := fun r => ev_eq ([true, true, false, true, true, false, true, true, true, true].map fun b => (b, b)) (selTR [(0, .bool true false), (1, .ptr 0 0), (3, .int .i64 true 0), (4, .gsl .top 2 0 3), (7, .int .i64 true 370), (8, .ptr 3 0), (9, .int .i64 false 2), (10, .gsl .top 5 0 4), (11, .int .i64 true 0)] wkN wkT9) (by kernel_rfl) (allE_same [true, true, false, true, true, false, true, true, true, true])
noncomputable def wkT10 : List TIt := [.it (.cells [.gsl .full 1 0 0, .bool true true] 74), .row 3 5 cvE none [[.int .u64 true 1, .int .u64 true 0, .int .u64 true 0, .int .u64 true 0, .int .u64 true 0], [.int .u64 true 1, .int .u64 true 0, .int .u64 true 0, .int .u64 true 0, .int .u64 true 0], [.int .u64 true 2, .int .u64 true 0, .int .u64 true 0, .int .u64 true 0, .int .u64 true 0]], .row 3 5 cvE none [[.int .u64 true 2, .int .u64 true 0, .int .u64 true 0, .int .u64 true 0, .int .u64 true 0], [.int .u64 true 1, .int .u64 true 0, .int .u64 true 0, .int .u64 true 0, .int .u64 true 0], [.int .u64 true 1, .int .u64 true 0, .int .u64 true 0, .int .u64 true 0, .int .u64 true 0]], .row 4 2 ccE none [[.int .u8 true 0, .int .u64 true 0], [.int .u8 true 5, .int .u64 true 1], [.int .u8 true 6, .int .u64 true 0], [.int .u8 true 0, .int .u64 true 0]]]
theorem wk_9 : ∀ r, Is (evT (EG noRows true [] []) 60 (.code (sL wkq9)) ⟨pat [(0, .bool true false), (1, .ptr 0 0), (3, .int .i64 true 0), (4, .gsl .top 2 0 3), (7, .int .i64 true 370), (8, .ptr 3 0), (9, .int .i64 false 2), (10, .gsl .top 5 0 4), (11, .int .i64 true 0)] r 0 wkN, ⟨wkT9.map TIt.real, [true], allW⟩⟩ (selT [0, 1, 2, 5] .normal [(0, .bool true false), (1, .ptr 0 0), (3, .int .i64 true 0), (4, .gsl .top 2 0 3), (7, .int .i64 true 370), (9, .int .i64 false 2), (10, .gsl .top 3 0 4), (11, .int .i64 true 0), (13, .int .i64 true 4)] wkN wkT10)) := fun r => ev_eq ([true, true, true].map fun b => (b, b)) (selTR [(0, .bool true false), (1, .ptr 0 0), (3, .int .i64 true 0), (4, .gsl .top 2 0 3), (7, .int .i64 true 370), (9, .int .i64 false 2), (10, .gsl .top 3 0 4), (11, .int .i64 true 0), (13, .int .i64 true 4)] wkN wkT10) (by kernel_rfl) (allE_same [true, true, true])
theorem wk_10 : ∀ rs, Is (evT (EG noRows true [] []) 60 (.code wkq10) ⟨pat [(0, .bool true false), (1, .ptr 0 0), (3, .int .i64 true 0), (4, .gsl .top 2 0 3), (7, .int .i64 true 370), (9, .int .i64 false 2), (10, .gsl .top 3 0 4), (11, .int .i64 true 0), (13, .int .i64 true 4)] rs 0 wkN, ⟨wkT10.map TIt.real, [false, true, true, true, false, true, false, true, true, true, true, false], allW⟩⟩ (retK (EG noRows true [] []) Try.f8 (.bool true true))) := fun rs => ev_eq ([false, true, true, true, true, true, true, true, true, true, true, true, true, true, true, true, false, true, false, true, true, true, true, true, true, true, true, true, true, true, true, true, true, true, true, true, true, true, true, true, true, true, true, true, true, true, true, true, true, true, true, true, true, true, true, false].map fun b => (b, b)) (some [(.bool true true : AV)]) (by kernel_rfl) (allE_same [false, true, true, true, true, true, true, true, true, true, true, true, true, true, true, true, false, true, false, true, true, true, true, true, true, true, true, true, true, true, true, true, true, true, true, true, true, true, true, true, true, true, true, true, true, true, true, true, true, true, true, true, true, true, true, false])
theorem works_any (w : World) : Calls Try.prog 8 #[] w fun e w' => e = .returned (.bool true) ∧ Below w.heap.size w w' := by
  have hE := EG_ok rwOK_no true good_nil goodM_nil
  refine ev_enter (E := EG noRows true [] []) (fn := Try.f8) (c := wkq0) Try.func8 (by kernel_rfl) (args := []) (Args := []) (show 0 ≤ wkN by decide) .nil (rd_no _ _) (ds := []) (wr := allW) fun a0 hP0 hB0 => ?_
  refine wp_parts (c := wkq0) (by kernel_rfl) (ev_codeT hE 60 [] .normal (by decide) wk_0 hP0 hB0 fun a1 Hr1 w1 hP1 hB1 => ?_)
  show (wkq1).wp _ _ _ _
  refine wp_parts (c := wkq1) (by kernel_rfl) (ev_codeT hE 60 [6, 7] .normal (by decide) wk_1 hP1 hB1 fun a2 Hr2 w2 hP2 hB2 => ?_)
  show (wkq2).wp _ _ _ _
  refine wp_parts (c := wkq2) (by kernel_rfl) (ev_codeT hE 60 [1, 36] .normal (by decide) wk_2 hP2 hB2 fun a3 Hr3 w3 hP3 hB3 => ?_)
  show (wkq3).wp _ _ _ _
  refine wp_parts (c := wkq3) (by kernel_rfl) (ev_codeT hE 60 [0, 1, 12] .normal (by decide) wk_3 hP3 hB3 fun a4 Hr4 w4 hP4 hB4 => ?_)
  show (wkq4).wp _ _ _ _
  refine wp_parts (c := wkq4) (by kernel_rfl) (ev_codeT hE 60 [0, 1, 2] .normal (by decide) wk_4 hP4 hB4 fun a5 Hr5 w5 hP5 hB5 => ?_)
  show (wkq5).wp _ _ _ _
  refine wp_parts (c := wkq5) (by kernel_rfl) (ev_codeT hE 60 [0, 1, 2, 3] .normal (by decide) wk_5 hP5 hB5 fun a6 Hr6 w6 hP6 hB6 => ?_)
  show (wkq6).wp _ _ _ _
  refine wp_parts (c := wkq6) (by kernel_rfl) (ev_codeT hE 60 [0, 1, 2, 3, 25] .normal (by decide) wk_6 hP6 hB6 fun a7 Hr7 w7 hP7 hB7 => ?_)
  show (wkq7).wp _ _ _ _
  refine wp_parts (c := wkq7) (by kernel_rfl) (ev_codeT hE 60 [0, 1, 2, 3, 4] .normal (by decide) wk_7 hP7 hB7 fun a8 Hr8 w8 hP8 hB8 => ?_)
  show (wkq8).wp _ _ _ _
  refine wp_parts (c := wkq8) (by kernel_rfl) (ev_codeT hE 60 [0, 1, 2, 3, 4, 23] .normal (by decide) wk_8 hP8 hB8 fun a9 Hr9 w9 hP9 hB9 => ?_)
  show (wkq9).wp _ _ _ _
  refine wp_parts (c := wkq9) (by kernel_rfl) (ev_codeT hE 60 [0, 1, 2, 5] .normal (by decide) wk_9 hP9 hB9 fun a10 Hr10 w10 hP10 hB10 => ?_)
  show (wkq10).wp _ _ _ _
  exact ev_rest hE 60 wk_10 rfl (fun j r h => by cases h) hP10 hB10
end Go.Proofs.Ytcfomhnfhalmaaa
end

section
set_option linter.unusedVariables false
set_option linter.unusedSimpArgs false
set_option maxRecDepth 100000
namespace Go.Proofs.Ytcfomhnfhalmaaa
open Go.RowKit

noncomputable def tabW : List (Nat × CtrF) := [(8, ctr0 (.bool true true))]
theorem tabW_ok {R : Rws} : ∀ p ∈ tabW, Good Try.prog R p.1 p.2 := good_cons (p := (_, _)) (ctr0_ok (enters_of Try.func8 (by kernel_rfl) rfl) rfl works_any) good_nil
end Go.Proofs.Ytcfomhnfhalmaaa
end

section
set_option linter.unusedVariables false
set_option linter.unusedSimpArgs false
set_option maxRecDepth 100000
end

section
set_option linter.unusedVariables false
set_option linter.unusedSimpArgs false
set_option maxRecDepth 100000
end

section
set_option linter.unusedVariables false
set_option linter.unusedSimpArgs false
set_option maxRecDepth 100000
end

section
set_option linter.unusedVariables false
set_option linter.unusedSimpArgs false
set_option maxRecDepth 100000
end

section
set_option linter.unusedVariables false
set_option linter.unusedSimpArgs false
set_option maxRecDepth 100000
end

section
set_option linter.unusedVariables false
set_option linter.unusedSimpArgs false
set_option maxRecDepth 100000
end

section
set_option linter.unusedVariables false
set_option linter.unusedSimpArgs false
set_option maxRecDepth 100000
namespace Go.Proofs.Ytcfomhnfhalmaaa
open Go.RowKit

section
variable {E : Env} (hE : EnvOK E) {Ds : List Nat} {n0 : Nat} {w0 : World}
include hE
theorem ev_codeWP (nf : Nat) (sel : List Nat) (e0 : AExit) {c : Code} {live live' live'' : List (Nat × AV)} {n : Nat} {H H' H'' : Mem} {ds ds' : List Bool} {wr wr' : Nat → Bool} (hnd : nodupN sel = true) {Hr0 : List RBlk} {w00 : World} (hpre : sel.take Hr0.length = List.range Hr0.length) (h : ∀ r, Is (evT E nf (.code c) ⟨pat live r 0 n, ⟨H, ds, wr⟩⟩ (selK sel e0 live' n H'))) (hwl : wkV live' live'') (hwm : wkM H' H'')
    {a : Act} {Hr : List RBlk} {w : World} {Q : Exit → Act → World → Prop} (hP : PatSt E.rows (Ds.map markD) live n ⟨H, ds', wr'⟩ a Hr) (hB : Bun E.rows Ds n0 w0 H Hr w)
    (hI : Stp wr Hr0 w00 Hr w)
    (hk : ∀ a' Hr' w', PatSt E.rows (Ds.map markD) live'' n ⟨H'', [], allW⟩ a' Hr' → Bun E.rows Ds n0 w0 H'' Hr' w' → Stp wr Hr0 w00 Hr' w' → Q e0.real a' w') : c.wp E.P Q a w := by
  obtain ⟨r, hR⟩ := hP
  obtain ⟨e, st', h1, hlo, hs⟩ := ev_sound hE nf (.code c) _ _ (h r).is
  refine wp_mono (hs a Hr w hR hB.own) ?_
  rintro e' a' w' ⟨rfl, Hr', hR', hO', hS⟩
  unfold selK at h1
  simp only [Prod.mk.injEq] at h1
  obtain ⟨he, hn, hl, hH, hd⟩ := h1
  rw [eqE_eq he]
  have hB' := hB.stp hO' hS
  obtain ⟨vs, rfl, ht, hBl, hnod⟩ := hR'
  have hbl := hBl.len
  have hlen : H'.length = sel.length := by have := congrArg List.length hH; simpa using this.symm
  have hat : ∀ i l : Nat, sel[i]? = some l → ∃ p q : AIt, st'.m.H[l]? = some p ∧ renI sel p = some q ∧ H'[i]? = some q := by
    intro i l hi
    have h2 := congrArg (fun z : List (Option AIt) => z[i]?) hH
    simp only [List.getElem?_map, hi, Option.map_some] at h2
    have hi' : i < H'.length := by rw [hlen]; exact (List.getElem?_eq_some_iff.1 hi).1
    rw [List.getElem?_eq_getElem hi', Option.map_some, Option.some.injEq] at h2
    rw [Option.bind_eq_some_iff] at h2
    obtain ⟨p, h3, h4⟩ := h2
    exact ⟨p, _, h3, h4, List.getElem?_eq_getElem hi'⟩
  have hv : ∀ l ∈ sel, l < Hr'.length := fun l hl => by
    obtain ⟨i, hi, hi'⟩ := List.mem_iff_getElem.1 hl
    obtain ⟨p, q, h3, _, _⟩ := hat i l (by rw [List.getElem?_eq_getElem hi, hi'])
    rw [hbl]; exact (List.getElem?_eq_some_iff.1 h3).1
  have hρ := nums_pick (Hr := Hr') hv
  obtain ⟨tl', t1, t2, t3⟩ := lives_ren hρ ht hl
  have hpk := pick_get (Hr := Hr') hv
  have hto : ∀ (i : Nat) jt q, H'[i]? = some jt → (pick sel Hr')[i]? = some q → ∃ l it, sel[i]? = some l ∧ st'.m.H[l]? = some it ∧ renI sel it = some jt ∧ Hr'[l]? = some q := fun i jt q h1 h2 => by
    have hi2 : i < sel.length := by rw [← hlen]; exact (List.getElem?_eq_some_iff.1 h1).1
    obtain ⟨p, q', h3, h4, h5⟩ := hat i sel[i] (List.getElem?_eq_getElem hi2)
    rw [h1] at h5; cases h5
    exact ⟨sel[i], p, List.getElem?_eq_getElem hi2, h3, h4, (hpk i _ (List.getElem?_eq_getElem hi2)).symm.trans h2⟩
  have hBl' : RelB E.rows (nums (pick sel Hr')) H' (pick sel Hr') := by
    refine ⟨by rw [pick_len hv, hlen], fun i jt q h1 h2 => ?_⟩
    obtain ⟨l, it, e1, e2, e3, e4⟩ := hto i jt q h1 h2
    exact RelI.ren hρ e3 (hBl.2 l it q e2 e4)
  have hnod' : Apart H' (pick sel Hr') := by
    have hsn := nodupN_spec hnd
    intro i j it1 jt1 p1 p2 hne h1 h2 l1 l2 q1 q2 z1 z2 hb
    obtain ⟨l, it, e1, e2, e3, e4⟩ := hto i it1 p1 h1 q1
    obtain ⟨m, jt, f1, f2, f3, f4⟩ := hto j jt1 p2 h2 q2
    have hlm : l ≠ m := fun e => by
      subst e
      have hi := (List.getElem?_eq_some_iff.1 e1).1
      exact hne ((List.getElem?_inj hi hsn).1 (e1.trans f1.symm))
    have ho := hnod l m it jt p1 p2 hlm e2 f2 (by rw [← renI_live e3]; exact l1) (by rw [← renI_live f3]; exact l2) e4 f4 z1 z2 hb
    have g1 := renI_owner e3 e1
    have g2 := renI_owner f3 f1
    rw [ho] at g1
    exact (List.getElem?_inj (List.getElem?_eq_some_iff.1 g1).1 hsn).1 (g1.trans g2.symm)
  have hP' : PatSt E.rows (Ds.map markD) live' n ⟨H', [], allW⟩ ⟨vs.toArray, Ds.map markD⟩ (pick sel Hr') :=
    patSt_of (live := live) (st := ⟨tl', ⟨H', [], allW⟩⟩) ⟨vs, rfl, t1, hBl', hnod'⟩ (by rw [t2]; exact hn) t3
  have hsub : ∀ b, b ∈ bs (nums (pick sel Hr')) → b ∈ bs (nums Hr') := fun b hb => by
    rw [mem_bs] at hb ⊢
    obtain ⟨q, hq, e⟩ := hb
    exact ⟨q, nums_pick_mem hq, e⟩
  have hBf : Bun E.rows Ds n0 w0 H' (pick sel Hr') w' := by
   refine ⟨⟨fun i jt q h1 h2 hq => ?_, hB'.own.2.sub hsub⟩, fun D hD => ?_, hB'.nodup, fun b hb hbp => hB'.fresh b (nums_pick_mem hb) hbp, hB'.below, hB'.size⟩
   · obtain ⟨l, it, e1, e2, e3, e4⟩ := hto i jt q h1 h2
     obtain ⟨g1, g2⟩ := hB'.own.1 l it q e2 e4 hq
     exact ⟨g1, fun hlv => g2 (by rw [← renI_live e3]; exact hlv)⟩
   · obtain ⟨q1, q2, q3⟩ := hB'.marks D hD
     exact ⟨q1, fun hm => q2 (hsub _ hm), q3⟩
  exact hk _ _ w' (hP'.wk hwl hwm) (hBf.wk hwm) (stp_sel hnd hv hpre (hI.trans hS))
end
theorem Stp.rfl' {wr : Nat → Bool} {Hr : List RBlk} {w : World} : Stp wr Hr w Hr w := Stp.of_below (Below.refl _ _)
end Go.Proofs.Ytcfomhnfhalmaaa
end

section
set_option linter.unusedVariables false
set_option linter.unusedSimpArgs false
set_option maxRecDepth 100000
namespace Go.Proofs.Ytcfomhnfhalmaaa
open Go.RowKit

/-- A nil slice in a variable, told as an empty row that has no block. -/
theorem nil_rowT {R : Rws} {D : List Deferred} {Ds : List Nat} {n0 : Nat} {w0 w : World} {live : List (Nat × AV)} {n d s : Nat} {H : Mem} {F : Nat → List AV} {e : TypeId} {ds : List Bool} {wr : Nat → Bool} {a : Act} {Hr : List RBlk} (hs : 0 < s) (hkeys : live.all (fun p => Nat.blt p.1 n) = true) (hd : d < n) (hl : look d live = some (.raw (.slice none 0 0)))
    (hP : PatSt R D live n ⟨H, ds, wr⟩ a Hr) (hB : Bun R Ds n0 w0 H Hr w) :
    PatSt R D ((d, .gsl .top H.length 0 0) :: live) n ⟨H ++ [.row 0 s F e none], ds, wr⟩ a (Hr ++ [noBlk s]) ∧ Bun R Ds n0 w0 (H ++ [.row 0 s F e none]) (Hr ++ [noBlk s]) w := by
  obtain ⟨r, vs, e', ht, hBl, hA⟩ := hP
  have hno : (noBlk s).num.ph = false → ∀ {p : Prop}, p := fun h => by rw [noBlk_ph hs] at h; cases h
  have hn : nums (Hr ++ [noBlk s]) = nums Hr ++ [(noBlk s).num] := nums_snoc _ _
  have hq : (nums Hr ++ [(noBlk s).num])[H.length]? = some (noBlk s).num := by
    rw [List.getElem?_append_right (by simp [nums, hBl.1])]; simp [nums, hBl.1]
  have hbs : bs (nums (Hr ++ [noBlk s])) = bs (nums Hr) := by rw [hn]; simp [bs, noBlk_ph hs]
  have hP' : PatSt R D live n ⟨H ++ [.row 0 s F e none], ds, wr⟩ a (Hr ++ [noBlk s]) := ⟨r, vs, e', by rw [hn]; exact ht.grow _, by rw [hn]; exact (hBl.grow _).snoc (.row0 (noBlk_ph hs)), apart_new hA hB.own.1 hBl.1 (fun h => hno h)⟩
  refine ⟨patSt_val hP' hkeys hd hl (fun V hv => by cases hv; exact rel_gsl_no (by rw [hn]; exact hq)), ⟨⟨own_new hB.own.1 hBl.1 (Below.refl _ _) (fun h => hno h), ?_⟩, ?_, hB.nodup, ?_, hB.below, hB.size⟩⟩
  · rw [hbs]; exact hB.own.2
  · rw [hbs]; exact hB.marks
  · intro q hq hqp
    rw [hn] at hq
    rcases List.mem_append.1 hq with h | h
    · exact hB.fresh q h hqp
    · rw [List.mem_singleton.1 h, noBlk_ph hs] at hqp; cases hqp
end Go.Proofs.Ytcfomhnfhalmaaa
end

section
set_option linter.unusedVariables false
set_option linter.unusedSimpArgs false
set_option maxRecDepth 100000
end

section
set_option linter.unusedVariables false
set_option linter.unusedSimpArgs false
set_option maxRecDepth 100000
namespace Go.Proofs.Ytcfomhnfhalmaaa
open Go.RowKit

/-- What a label says of the block that another one had. -/
def rtI (σ φ : Nat → Nat) (l : Nat) (a : AIt) (i : Nat) (b : AIt) : Prop :=
  b = .gone ∨ (b.owner i = φ (a.owner l) ∧ (b = mapI σ a ∨ ∃ n s F t o o', a = .row n s F t o ∧ b = .row n s F t o'))
def rtL (σ φ : Nat → Nat) (H : Mem) : Nat → List Nat → Mem → Prop
  | _, [], [] => True
  | i, l :: π, b :: H' => (∃ a, H[l]? = some a ∧ rtI σ φ l a i b) ∧ rtL σ φ H (i + 1) π H'
  | _, _, _ => False
theorem rtL.at {σ φ : Nat → Nat} {H : Mem} : ∀ {k : Nat} {π : List Nat} {H' : Mem}, rtL σ φ H k π H' → π.length = H'.length ∧ ∀ i l : Nat, π[i]? = some l → ∃ a b, H[l]? = some a ∧ H'[i]? = some b ∧ rtI σ φ l a (k + i) b
  | k, [], [], _ => ⟨rfl, fun i l h => by simp at h⟩
  | k, x :: π, b :: H', h => by
    obtain ⟨⟨a, h1, h2⟩, h3⟩ := h
    obtain ⟨e, q⟩ := h3.at
    refine ⟨by rw [List.length_cons, List.length_cons, e], fun i l hi => ?_⟩
    cases i with
    | zero => simp at hi; subst hi; exact ⟨a, b, h1, rfl, h2⟩
    | succ i =>
      obtain ⟨a', b', g1, g2, g3⟩ := q i l (by simpa using hi)
      exact ⟨a', b', g1, by simpa using g2, by rw [show k + (i + 1) = k + 1 + i by omega]; exact g3⟩
theorem mapI_own {σ φ : Nat → Nat} {it : AIt} {p : RBlk} {R : Rws} {ρ ρ' : Nums} (hσ : ∀ (l : Nat) q, ρ[l]? = some q → ρ'[σ l]? = some q) {l i : Nat} {b : AIt} (h : rtI σ φ l it i b) (hr : RelI R ρ it p) : RelI R ρ' b p := by
  rcases h with rfl | ⟨_, rfl | ⟨n, s, F, t, o, o', rfl, rfl⟩⟩
  · exact .gone
  · exact hr.mapS hσ
  · cases hr with
    | row a b c d e => exact .row a b c d e
    | row0 h => exact .row0 h
theorem rtI_live {σ φ : Nat → Nat} {l i : Nat} {a b : AIt} (h : rtI σ φ l a i b) (hb : b.live = true) : a.live = true ∧ b.owner i = φ (a.owner l) := by
  rcases h with rfl | ⟨h, rfl | ⟨n, s, F, t, o, o', rfl, rfl⟩⟩
  · cases hb
  · exact ⟨by rw [mapI_live] at hb; exact hb, h⟩
  · exact ⟨rfl, h⟩
def rtPi (π : List Nat) (n : Nat) (σ : Nat → Nat) : Prop := (∀ l ∈ π, l < n) ∧ ∀ l, l < n → π[σ l]? = some l
theorem rt_sub {R : Rws} {Hr : List RBlk} {π : List Nat} {n : Nat} {σ : Nat → Nat} (hl : Hr.length = n) (hπ : rtPi π n σ) : ∀ (l : Nat) q, (nums Hr)[l]? = some q → (nums (pick π Hr))[σ l]? = some q := fun l q h => by
  have hlt : l < n := by have := (List.getElem?_eq_some_iff.1 h).1; simp only [nums, List.length_map] at this; omega
  rw [nums_pick (fun l hl' => by rw [hl]; exact hπ.1 l hl') _ _ (hπ.2 l hlt)]
  exact h
theorem retell {R : Rws} {H H' : Mem} {Hr : List RBlk} {π : List Nat} {σ φ : Nat → Nat} {w : World} (hπ : rtPi π H.length σ) (hit : rtL σ φ H 0 π H')
    (hB : RelB R (nums Hr) H Hr) (hn : Apart H Hr) (hO : OwnK R H Hr w) : RelB R (nums (pick π Hr)) H' (pick π Hr) ∧ Apart H' (pick π Hr) ∧ OwnK R H' (pick π Hr) w := by
  obtain ⟨hlen, hat⟩ := hit.at
  have hv : ∀ l ∈ π, l < Hr.length := fun l h => by rw [hB.1]; exact hπ.1 l h
  have hσ := rt_sub (R := R) hB.1 hπ
  have hto : ∀ (i : Nat) b p, H'[i]? = some b → (pick π Hr)[i]? = some p → ∃ l a, π[i]? = some l ∧ H[l]? = some a ∧ Hr[l]? = some p ∧ rtI σ φ l a i b := fun i b p h1 h2 => by
    have hi : i < π.length := by rw [hlen]; exact (List.getElem?_eq_some_iff.1 h1).1
    have e1 := List.getElem?_eq_getElem hi
    obtain ⟨a, b', g1, g2, g3⟩ := hat i _ e1
    rw [h1] at g2; cases g2
    rw [pick_get hv i _ e1] at h2
    exact ⟨_, a, e1, g1, h2, by rw [Nat.zero_add] at g3; exact g3⟩
  refine ⟨⟨by rw [pick_len hv, hlen], fun i b p h1 h2 => ?_⟩, fun i j b c p q hne h1 h2 v1 v2 q1 q2 z1 z2 hb => ?_, ⟨fun i b p h1 h2 hp => ?_, hO.2.sub fun b hb => ?_⟩⟩
  · obtain ⟨l, a, e1, e2, e3, e4⟩ := hto i b p h1 h2
    exact mapI_own hσ e4 (hB.2 l a p e2 e3)
  · obtain ⟨l, a, e1, e2, e3, e4⟩ := hto i b p h1 q1
    obtain ⟨m, d, f1, f2, f3, f4⟩ := hto j c q h2 q2
    obtain ⟨k1, k2⟩ := rtI_live e4 v1
    obtain ⟨k3, k4⟩ := rtI_live f4 v2
    rw [k2, k4]
    by_cases hlm : l = m
    · subst hlm
      rw [e2] at f2; cases f2
      rfl
    · rw [hn l m a d p q hlm e2 f2 k1 k3 e3 f3 z1 z2 hb]
  · obtain ⟨l, a, e1, e2, e3, e4⟩ := hto i b p h1 h2
    obtain ⟨g1, g2⟩ := hO.1 l a p e2 e3 hp
    exact ⟨g1, fun hlv => g2 (rtI_live e4 hlv).1⟩
  · rw [mem_bs] at hb ⊢
    obtain ⟨q, hq, e⟩ := hb
    exact ⟨q, nums_pick_mem hq, e⟩
theorem retell_stp {Hr0 Hr : List RBlk} {π : List Nat} {w0 w : World} {wr : Nat → Bool} (hv : ∀ l ∈ π, l < Hr.length) (hk : π.take Hr0.length = List.range Hr0.length) (hw : ∀ l ∈ π.drop Hr0.length, l < Hr0.length → wr l = true) (hS : Stp wr Hr0 w0 Hr w) : Stp wr Hr0 w0 (pick π Hr) w := by
  obtain ⟨τ, hτ, hfr⟩ := hS.ext
  have hkl : Hr0.length ≤ π.length := by
    have := congrArg List.length hk
    simp at this
    omega
  have hlow : ∀ i, i < Hr0.length → π[i]? = some i := fun i hi => by
    have := congrArg (fun z : List Nat => z[i]?) hk
    simpa [List.getElem?_take, hi] using this
  have hnp : (nums (pick π Hr)).length = π.length := by simp [nums, pick_len hv]
  have hnH : (nums Hr0).length = Hr0.length := by simp [nums]
  have hget : ∀ i l : Nat, π[i]? = some l → (nums (pick π Hr))[i]? = (nums Hr)[l]? := fun i l h => nums_pick hv i l h
  refine ⟨hS.os, hS.tape, hS.output, hS.size, ⟨(nums (pick π Hr)).drop Hr0.length, ?_, fun q hq hqp => ?_⟩, hS.block⟩
  · refine List.ext_getElem? fun i => ?_
    by_cases hi : i < Hr0.length
    · rw [List.getElem?_append_left (by rw [hnH]; exact hi), hget i i (hlow i hi), hτ, List.getElem?_append_left (by rw [hnH]; exact hi)]
    · rw [List.getElem?_append_right (by rw [hnH]; omega), List.getElem?_drop, hnH]
      congr 1; omega
  · obtain ⟨j, hj⟩ := List.getElem?_of_mem hq
    rw [List.getElem?_drop] at hj
    have hjl : Hr0.length + j < π.length := by rw [← hnp]; exact (List.getElem?_eq_some_iff.1 hj).1
    have e1 := List.getElem?_eq_getElem hjl
    rw [hget _ _ e1] at hj
    by_cases hlt : π[Hr0.length + j] < Hr0.length
    · rw [hτ, List.getElem?_append_left (by rw [hnH]; exact hlt)] at hj
      exact .inr ⟨_, q, hj, hqp, rfl, hw _ (List.mem_of_getElem? (i := j) (by rw [List.getElem?_drop]; exact e1)) hlt⟩
    · rw [hτ, List.getElem?_append_right (by rw [hnH]; omega)] at hj
      exact hfr q (List.mem_of_getElem? hj) hqp
/-- What a call leaves behind, told under other labels. -/
theorem calls_rt {P : Program} {R : Rws} {f : FuncId} {Args : Array Value} {w : World} {H1 H2 H3 : Mem} {Hr : List RBlk} {v1 v3 : AV} {wr : Nat → Bool} (π : List Nat) (σ φ : Nat → Nat) (hπ : rtPi π H1.length σ) (hk : π.take Hr.length = List.range Hr.length) (hw : ∀ l ∈ π.drop Hr.length, l < Hr.length → wr l = true) (hit : rtL σ φ H1 0 π H2) (hv : wkA (mapA σ v1) v3) (hm : wkM H2 H3)
    (h : Calls P f Args w fun e w' => ∃ V Hr', e = .returned V ∧ Rel R (nums Hr') v1 V ∧ RelB R (nums Hr') H1 Hr' ∧ Apart H1 Hr' ∧ OwnK R H1 Hr' w' ∧ Stp wr Hr w Hr' w') :
    Calls P f Args w fun e w' => ∃ V Hr', e = .returned V ∧ Rel R (nums Hr') v3 V ∧ RelB R (nums Hr') H3 Hr' ∧ Apart H3 Hr' ∧ OwnK R H3 Hr' w' ∧ Stp wr Hr w Hr' w' := by
  refine h.mono ?_
  rintro e w' ⟨V, Hr', rfl, g1, g2, g3, g4, g5⟩
  obtain ⟨q1, q2, q3⟩ := retell hπ hit g2 g3 g4
  obtain ⟨k1, k2⟩ := hm.mem q1 q2
  exact ⟨V, _, rfl, hv _ _ _ (Rel.mapS (rt_sub (R := R) g2.1 hπ) g1), k1, k2, hm.own q3, retell_stp (fun l hl => by rw [g2.1]; exact hπ.1 l hl) hk hw g5⟩
theorem look_map {σ : Nat → Nat} {i : Nat} : ∀ live : List (Nat × AV), look i (live.map fun q => (q.1, mapA σ q.2)) = (look i live).map (mapA σ)
  | [] => rfl
  | (j, a) :: r => by
    rw [List.map_cons]
    unfold look
    cases hb : Nat.beq i j <;> simp only [cond_true, cond_false]
    · exact look_map r
    · rfl
theorem pat_map {σ : Nat → Nat} {live : List (Nat × AV)} {r : Nat → Value} : ∀ n i : Nat, mapL σ (pat live r i n) = pat (live.map fun q => (q.1, mapA σ q.2)) r i n
  | 0, _ => rfl
  | n + 1, i => by
    unfold pat
    rw [look_map]
    unfold mapL
    rw [pat_map n (i + 1)]
    cases hl : look i live <;> rfl
theorem PatSt.rt {R : Rws} {D : List Deferred} {live : List (Nat × AV)} {n : Nat} {H H' : Mem} {ds : List Bool} {wr : Nat → Bool} {a : Act} {Hr : List RBlk} (π : List Nat) (σ φ : Nat → Nat) (hπ : rtPi π H.length σ) (hit : rtL σ φ H 0 π H') {Ds : List Nat} {n0 : Nat} {w0 w : World}
    (hP : PatSt R D live n ⟨H, ds, wr⟩ a Hr) (hB : Bun R Ds n0 w0 H Hr w) : PatSt R D (live.map fun q => (q.1, mapA σ q.2)) n ⟨H', ds, wr⟩ a (pick π Hr) ∧ Bun R Ds n0 w0 H' (pick π Hr) w := by
  obtain ⟨r, vs, e, ht, hBl, hA⟩ := hP
  obtain ⟨q1, q2, q3⟩ := retell hπ hit hBl hA hB.own
  refine ⟨⟨r, vs, e, ?_, q1, q2⟩, q3, fun D hD => ?_, hB.nodup, fun b hb hbp => hB.fresh b (nums_pick_mem hb) hbp, hB.below, hB.size⟩
  · show RelL R _ (pat _ r 0 n) vs
    rw [← pat_map]
    exact RelL.mapS (rt_sub (R := R) hBl.1 hπ) ht
  · obtain ⟨g1, g2, g3⟩ := hB.marks D hD
    refine ⟨g1, fun hm => g2 ?_, g3⟩
    rw [mem_bs] at hm ⊢
    obtain ⟨q, hq, e⟩ := hm
    exact ⟨q, nums_pick_mem hq, e⟩
end Go.Proofs.Ytcfomhnfhalmaaa
end

section
set_option linter.unusedVariables false
set_option linter.unusedSimpArgs false
set_option maxRecDepth 100000
end

section
set_option linter.unusedVariables false
set_option linter.unusedSimpArgs false
set_option maxRecDepth 100000
namespace Go.Proofs.Ytcfomhnfhalmaaa
open Go.RowKit

abbrev PostM (R : Rws) (Hr : List RBlk) (w : World) (v : AV) (H : Mem) : Ending → World → Prop := fun e w' => ∃ V Hr', e = .returned V ∧ Rel R (nums Hr') v V ∧ RelB R (nums Hr') H Hr' ∧ Apart H Hr' ∧ OwnK R H Hr' w' ∧ Stp allW Hr w Hr' w'
def ltS (S : List Nat) : Nat → Nat := fun l => S.getD l 0
def rtC (π S : List Nat) (n : Nat) : Bool := π.all (fun l => Nat.blt l n) && (List.range n).all (fun l => match π[S.getD l 0]? with | some m => Nat.beq m l | none => false)
theorem rtC_ok {π S : List Nat} {n : Nat} (h : rtC π S n = true) : rtPi π n (ltS S) := by
  unfold rtC at h
  rw [Bool.and_eq_true, List.all_eq_true, List.all_eq_true] at h
  refine ⟨fun l hl => by have := h.1 l hl; rw [Nat.blt_eq] at this; exact this, fun l hl => ?_⟩
  have := h.2 l (List.mem_range.2 hl)
  unfold ltS
  split at this
  · rename_i m hm
    rw [hm, Nat.eq_of_beq_eq_true this]
  · cases this
theorem calls_rtL {P : Program} {R : Rws} {f : FuncId} {Args : Array Value} {w : World} {H1 : Mem} (H2 : Mem) {H3 : Mem} {Hr : List RBlk} {v1 v3 : AV} (n0 : Nat) (π S Φ : List Nat) (h0 : Hr.length = n0) (hc : rtC π S H1.length = true) (hk : π.take n0 = List.range n0) (hit : rtL (ltS S) (ltS Φ) H1 0 π H2) (hv : wkA (mapA (ltS S) v1) v3) (hm : wkM H2 H3)
    (h : Calls P f Args w (PostM R Hr w v1 H1)) : Calls P f Args w (PostM R Hr w v3 H3) :=
  calls_rt π (ltS S) (ltS Φ) (rtC_ok hc) (by rw [h0]; exact hk) (fun _ _ _ => rfl) hit hv hm h
section
variable {P : Program} {R : Rws} {f : FuncId} {Args : Array Value} {w : World} {Hr : List RBlk} {t e : TypeId} {F : Nat → List AV}
theorem newR {n m m' : Nat} {k k' : Cp} {F1 F2 G : Nat → List AV} {e1 e2 : TypeId} (hl : Hr.length = 2) (hm : m' = m) (h1 : ∀ i, i < m → F1 i = G i) (h2 : ∀ i, i < m → F2 i = G i) (h : Calls P f Args w (PostM R Hr w (.tuple [.ptr 0 0, .gsl k' 3 0 m', .bool true true]) [.cells [.gsl k 2 0 m', .bool true true] t, .row n 5 F e none, .row m' 5 F1 e1 none, .row m' 5 F2 e2 none])) :
    Calls P f Args w (PostM R Hr w (.tuple [.ptr 2 0, .gsl .any 4 0 m, .bool true true]) [.gone, .row n 5 F e (some 3), .cells [.gsl .any 3 0 m, .bool true true] t, .row m 5 G e1 none, .row m 5 G e2 none]) := by
  subst hm
  exact calls_rtL [.gone, .row n 5 F e (some 3), .cells [.gsl k 3 0 m', .bool true true] t, .row m' 5 F1 e1 none, .row m' 5 F2 e2 none] 2 [0, 1, 0, 2, 3] [2, 1, 3, 4] [2, 3, 3, 4] hl (by rfl) rfl ⟨⟨_, rfl, .inl rfl⟩, ⟨_, rfl, .inr ⟨rfl, .inr ⟨_, _, _, _, _, _, rfl, rfl⟩⟩⟩, ⟨_, rfl, .inr ⟨rfl, .inl rfl⟩⟩, ⟨_, rfl, .inr ⟨rfl, .inl rfl⟩⟩, ⟨_, rfl, .inr ⟨rfl, .inl rfl⟩⟩, trivial⟩ (by exact wkA_tuple (a := [.ptr 2 0, .gsl k' 4 0 m', .bool true true]) (b := [.ptr 2 0, .gsl .any 4 0 m', .bool true true]) ⟨wkA.refl _, wkA_any, wkA.refl _, trivial⟩) ⟨trivial, wkI.refl _, ⟨rfl, wkA_any, wkA.refl _, trivial⟩, wkI_row (Nat.le_refl _) h1, wkI_row (Nat.le_refl _) h2, trivial⟩ h
end
end Go.Proofs.Ytcfomhnfhalmaaa
end
