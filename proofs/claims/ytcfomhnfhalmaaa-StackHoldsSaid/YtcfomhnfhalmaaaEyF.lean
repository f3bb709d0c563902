/- The frame rule: what is done to a few labels is done to them in any memory. No program of its own. No condition. -/
import Derived.Test.YtcfomhnfhalmaaaYB
set_option linter.unusedVariables false
set_option linter.unusedSimpArgs false
set_option maxRecDepth 100000
namespace Go.Proofs.Ytcfomhnfhalmaaa
open Go.RowKit

mutual
/-- Labels renamed. -/
def mapA (σ : Nat → Nat) : AV → AV
  | .ptr l o => .ptr (σ l) o
  | .slice l o n c => .slice (σ l) o n c
  | .func fn cs => .func fn (mapL σ cs)
  | .agg cs => .agg (mapL σ cs)
  | .tuple cs => .tuple (mapL σ cs)
  | .gsl k l o n => .gsl k (σ l) o n
  | .gptr l i o => .gptr (σ l) i o
  | .mp l => .mp (σ l)
  | .meth fn fs cs => .meth fn (mapL σ fs) (mapL σ cs)
  | .bool l b => .bool l b
  | .int k l n => .int k l n
  | .bv k a => .bv k a
  | .raw v => .raw v
  | .rsl j n c => .rsl j n c
  | .rptr j i o => .rptr j i o
  | .xsl j o n => .xsl j o n
  | .junk => .junk
  | .str s => .str s
def mapL (σ : Nat → Nat) : List AV → List AV
  | [] => []
  | c :: r => mapA σ c :: mapL σ r
end
def mapI (σ : Nat → Nat) : AIt → AIt
  | .cells cs t => .cells (mapL σ cs) t
  | .row n s F t none => .row n s F t none
  | .row n s F t (some o) => .row n s F t (some (σ o))
  | .map m => .map m
  | .gone => .gone
variable {R : Rws}
mutual
theorem Rel.mapS {ρ ρ' : Nums} {σ : Nat → Nat} (hσ : ∀ (l : Nat) q, ρ[l]? = some q → ρ'[σ l]? = some q) : ∀ {v : AV} {V : Value}, Rel R ρ v V → Rel R ρ' (mapA σ v) V
  | _, _, .bool => .bool
  | _, _, .int => .int
  | _, _, .bv h => .bv h
  | _, _, .ptr h => .ptr (hσ _ _ h)
  | _, _, .slice h => .slice (hσ _ _ h)
  | _, _, .func h => .func (RelL.mapS hσ h)
  | _, _, .agg h => .agg (RelL.mapS hσ h)
  | _, _, .tuple h => .tuple (RelL.mapS hσ h)
  | _, _, .raw => .raw
  | _, _, .rsl h hc => .rsl h hc
  | _, _, .rptr h ha hi => .rptr h ha hi
  | _, _, .xsl h hn hc ha => .xsl h hn hc ha
  | _, _, .gsl h hn ha hk hm => .gsl (hσ _ _ h) hn ha hk hm
  | _, _, .gptr h => .gptr (hσ _ _ h)
  | _, _, .mp h => .mp (hσ _ _ h)
  | _, _, .meth h k => .meth (RelL.mapS hσ h) (RelL.mapS hσ k)
  | _, _, .junk => .junk
  | _, _, .str => .str
theorem RelL.mapS {ρ ρ' : Nums} {σ : Nat → Nat} (hσ : ∀ (l : Nat) q, ρ[l]? = some q → ρ'[σ l]? = some q) : ∀ {v : List AV} {V : List Value}, RelL R ρ v V → RelL R ρ' (mapL σ v) V
  | _, _, .nil => .nil
  | _, _, .cons h hs => .cons (Rel.mapS hσ h) (RelL.mapS hσ hs)
end
theorem RelI.mapS {ρ ρ' : Nums} {σ : Nat → Nat} (hσ : ∀ (l : Nat) q, ρ[l]? = some q → ρ'[σ l]? = some q) {it : AIt} {p : RBlk} (h : RelI R ρ it p) : RelI R ρ' (mapI σ it) p := by
  cases h with
  | cells h hp => exact .cells (RelL.mapS hσ h) hp
  | @row n s F t own b cur c h hc hn hm hs => cases own <;> exact .row h hc hn hm hs
  | @row0 s F t own b o hp => cases own <;> exact .row0 hp
  | map h hp => exact .map h hp
  | gone => exact .gone
theorem mapI_live {σ : Nat → Nat} (it : AIt) : (mapI σ it).live = it.live := by
  cases it with
  | row n s F t own => cases own <;> rfl
  | _ => rfl
theorem mapI_owner {σ : Nat → Nat} (it : AIt) (l : Nat) : (mapI σ it).owner (σ l) = σ (it.owner l) := by
  cases it with
  | row n s F t own => cases own <;> rfl
  | _ => rfl
theorem idxOf_some {l i : Nat} : ∀ {sel : List Nat}, nodupN sel = true → sel[i]? = some l → idxOf l sel = some i
  | [], _, h => by simp at h
  | x :: r, hn, h => by
    unfold nodupN at hn
    rw [Bool.and_eq_true] at hn
    unfold idxOf
    cases i with
    | zero =>
      simp at h; subst h
      rw [show Nat.beq x x = true from Nat.beq_refl x]; rfl
    | succ i =>
      have h : r[i]? = some l := by simpa using h
      have hne : Nat.beq l x = false := by
        rw [Bool.eq_false_iff]
        intro e
        have e := Nat.eq_of_beq_eq_true e
        subst e
        have hm : memN l r = true := memN_iff.2 (List.mem_of_getElem? h)
        rw [hm] at hn
        cases hn.1
      rw [hne, cond_false, idxOf_some hn.2 h]
      rfl
theorem idxOf_none {l : Nat} {sel : List Nat} (h : idxOf l sel = none) : l ∉ sel := by
  induction sel with
  | nil => simp
  | cons x r ih =>
    unfold idxOf at h
    cases hb : Nat.beq l x <;> simp only [hb, cond_true, cond_false] at h
    · rw [Option.map_eq_none_iff] at h
      intro hm
      rcases List.mem_cons.1 hm with rfl | hm
      · rw [show Nat.beq l l = true from Nat.beq_refl l] at hb; cases hb
      · exact ih h hm
    · cases h
/-- Where a label of the small memory lies in the large one. -/
def sigF (sel : List Nat) (n : Nat) (i : Nat) : Nat := match sel[i]? with
  | some l => l
  | none => n + (i - sel.length)
/-- The large memory, in which the selected labels are as the small one says; what was written through them is gone. -/
def frmH (sel : List Nat) (σ : Nat → Nat) (H0 H : Mem) : Mem := (H.mapIdx fun l it => match idxOf l sel with
  | some i => mapI σ (H0.getD i .gone)
  | none => bif memN (it.owner l) sel then .gone else it) ++ (H0.drop sel.length).map (mapI σ)
def frmR (sel : List Nat) (A Hr : List RBlk) : List RBlk := (Hr.mapIdx fun l p => match idxOf l sel with
  | some i => A.getD i p
  | none => p) ++ A.drop sel.length
theorem frmH_old {sel : List Nat} {σ : Nat → Nat} {H0 H : Mem} {l : Nat} (h : l < H.length) : (frmH sel σ H0 H)[l]? = some (match idxOf l sel with
  | some i => mapI σ (H0.getD i .gone)
  | none => bif memN ((H[l]).owner l) sel then .gone else H[l]) := by
  unfold frmH
  rw [List.getElem?_append_left (by simpa using h), List.getElem?_mapIdx, List.getElem?_eq_getElem h]
  rfl
theorem frmR_old {sel : List Nat} {A Hr : List RBlk} {l : Nat} (h : l < Hr.length) : (frmR sel A Hr)[l]? = some (match idxOf l sel with
  | some i => A.getD i Hr[l]
  | none => Hr[l]) := by
  unfold frmR
  rw [List.getElem?_append_left (by simpa using h), List.getElem?_mapIdx, List.getElem?_eq_getElem h]
  rfl
theorem frmH_new {sel : List Nat} {σ : Nat → Nat} {H0 H : Mem} {l : Nat} (h : H.length ≤ l) : (frmH sel σ H0 H)[l]? = (H0[sel.length + (l - H.length)]?).map (mapI σ) := by
  unfold frmH
  rw [List.getElem?_append_right (by simpa using h), List.getElem?_map, List.getElem?_drop]
  simp
theorem frmR_new {sel : List Nat} {A Hr : List RBlk} {l : Nat} (h : Hr.length ≤ l) : (frmR sel A Hr)[l]? = A[sel.length + (l - Hr.length)]? := by
  unfold frmR
  rw [List.getElem?_append_right (by simpa using h), List.getElem?_drop]
  simp
theorem nodup_inj {sel : List Nat} (h : nodupN sel = true) {i j l : Nat} (hi : sel[i]? = some l) (hj : sel[j]? = some l) : i = j := by
  have h1 := idxOf_some h hi
  rw [idxOf_some h hj] at h1
  exact (Option.some.inj h1).symm
theorem frame {P : Program} {f : FuncId} {sel : List Nat} {H H0 H0' : Mem} {args args0 : List AV} {v0 : AV} {wr wr0 : Nat → Bool} (hk : sel.length = H0.length) (hsel : nodupN sel = true)
    (hcall : ∀ Hr w Args, RelL R (nums Hr) args0 Args → RelB R (nums Hr) H0 Hr → Apart H0 Hr → OwnK R H0 Hr w → Calls P f Args.toArray w fun e w' => ∃ V Hr', e = .returned V ∧ Rel R (nums Hr') v0 V ∧ RelB R (nums Hr') H0' Hr' ∧ Apart H0' Hr' ∧ OwnK R H0' Hr' w' ∧ Stp wr0 Hr w Hr' w')
    (hH : ∀ i l : Nat, sel[i]? = some l → ∃ it jt, H[l]? = some it ∧ H0[i]? = some jt ∧ renI sel it = some jt) (ha : renL sel args = some args0) (hlive : liveB H0 = true)
    (hwr : ∀ i l : Nat, sel[i]? = some l → wr0 i = true → wr l = true) {Hr : List RBlk} {w : World} {Args : List Value} (hA : RelL R (nums Hr) args Args) (hB : RelB R (nums Hr) H Hr) (hn : Apart H Hr) (hO : OwnK R H Hr w) :
    Calls P f Args.toArray w fun e w' => ∃ V Hr', e = .returned V ∧ Rel R (nums Hr') (mapA (sigF sel H.length) v0) V ∧ RelB R (nums Hr') (frmH sel (sigF sel H.length) H0' H) Hr' ∧ Apart (frmH sel (sigF sel H.length) H0' H) Hr' ∧ OwnK R (frmH sel (sigF sel H.length) H0' H) Hr' w' ∧ Stp wr Hr w Hr' w' := by
  have hlen := hB.1
  have hv : ∀ l ∈ sel, l < Hr.length := fun l hl => by
    obtain ⟨i, hi⟩ := List.getElem?_of_mem hl
    obtain ⟨it, _, h1, _⟩ := hH i l hi
    rw [hlen]; exact (List.getElem?_eq_some_iff.1 h1).1
  have hρ : ∀ i l : Nat, sel[i]? = some l → (nums (pick sel Hr))[i]? = (nums Hr)[l]? := fun i l h => nums_pick hv i l h
  have hsm : ∀ i jt, H0[i]? = some jt → ∃ l it, sel[i]? = some l ∧ H[l]? = some it ∧ renI sel it = some jt := fun i jt h => by
    have hi : i < sel.length := by rw [hk]; exact (List.getElem?_eq_some_iff.1 h).1
    obtain ⟨it, jt', h1, h2, h3⟩ := hH i _ (List.getElem?_eq_getElem hi)
    rw [h] at h2; cases h2
    exact ⟨_, it, List.getElem?_eq_getElem hi, h1, h3⟩
  have hB0 : RelB R (nums (pick sel Hr)) H0 (pick sel Hr) := by
    refine ⟨by rw [pick_len hv, hk], fun i jt p h1 h2 => ?_⟩
    obtain ⟨l, it, e1, e2, e3⟩ := hsm i jt h1
    rw [pick_get hv i l e1] at h2
    exact RelI.ren hρ e3 (hB.2 l it p e2 h2)
  have hn0 : Apart H0 (pick sel Hr) := fun i j jt kt p q hne h1 h2 v1 v2 q1 q2 z1 z2 hb => by
    obtain ⟨l, it, e1, e2, e3⟩ := hsm i jt h1
    obtain ⟨m, lt, f1, f2, f3⟩ := hsm j kt h2
    rw [pick_get hv i l e1] at q1
    rw [pick_get hv j m f1] at q2
    have hlm : l ≠ m := fun e => by subst e; exact hne (nodup_inj hsel e1 f1)
    have := hn l m it lt p q hlm e2 f2 (by rw [← renI_live e3]; exact v1) (by rw [← renI_live f3]; exact v2) q1 q2 z1 z2 hb
    have g1 := renI_owner e3 e1
    rw [this] at g1
    exact nodup_inj hsel g1 (renI_owner f3 f1)
  have hO0 : OwnK R H0 (pick sel Hr) w := by
    refine ⟨fun i jt p h1 h2 hp => ?_, hO.2.sub fun b hb => ?_⟩
    · obtain ⟨l, it, e1, e2, e3⟩ := hsm i jt h1
      rw [pick_get hv i l e1] at h2
      obtain ⟨g1, g2⟩ := hO.1 l it p e2 h2 hp
      exact ⟨g1, fun h => g2 (by rw [← renI_live e3]; exact h)⟩
    · obtain ⟨q, h1, h2, h3⟩ := mem_bs.1 hb
      exact mem_bs.2 ⟨q, nums_pick_mem h1, h2, h3⟩
  refine (hcall _ w Args (RelL.ren hρ ha hA) hB0 hn0 hO0).mono ?_
  rintro e w' ⟨V, A, rfl, hV, hB', hn', hO', hS⟩
  obtain ⟨τ, hτ, hfr⟩ := hS.ext
  have hA1 : A.length = sel.length + τ.length := by
    have := congrArg List.length hτ
    simpa [nums, pick_len hv] using this
  have hA2 : A.length = H0'.length := hB'.1
  have hnp : (nums (pick sel Hr)).length = sel.length := by simp [nums, pick_len hv]
  have hnH : (nums Hr).length = H.length := by simp [nums, hlen]
  have hin : ∀ i, i < sel.length → (nums A)[i]? = (nums (pick sel Hr))[i]? := fun i hi => by
    rw [hτ, List.getElem?_append_left (by rw [hnp]; exact hi)]
  have hnum : nums (frmR sel A Hr) = nums Hr ++ τ := by
    refine List.ext_getElem? fun l => ?_
    by_cases hl : l < Hr.length
    · rw [List.getElem?_append_left (by rw [hnH, ← hlen]; exact hl)]
      show ((frmR sel A Hr).map RBlk.num)[l]? = _
      rw [List.getElem?_map, frmR_old hl]
      rcases hi : idxOf l sel with _ | i
      · simp [nums, hl]
      · have e1 := idxOf_get hi
        have hik : i < sel.length := (List.getElem?_eq_some_iff.1 e1).1
        have h1 := hin i hik
        rw [hρ i l e1] at h1
        have hiA : i < A.length := by omega
        simp only [Option.map_some, List.getD_eq_getElem?_getD, List.getElem?_eq_getElem hiA, Option.getD_some]
        rw [← h1]
        simp [nums, hiA]
    · rw [List.getElem?_append_right (by rw [hnH, ← hlen]; omega), hnH, ← hlen]
      show ((frmR sel A Hr).map RBlk.num)[l]? = _
      rw [List.getElem?_map, frmR_new (by omega)]
      have : (nums A)[sel.length + (l - Hr.length)]? = τ[l - Hr.length]? := by
        rw [hτ, List.getElem?_append_right (by omega), hnp]
        congr 1; omega
      rw [← this]
      simp [nums]
  have hσ : ∀ (i : Nat) q, (nums A)[i]? = some q → (nums (frmR sel A Hr))[sigF sel H.length i]? = some q := fun i q h => by
    rw [hnum]
    unfold sigF
    by_cases hi : i < sel.length
    · rw [List.getElem?_eq_getElem hi]
      have e1 := List.getElem?_eq_getElem hi
      have hl := hv _ (List.mem_of_getElem? e1)
      show (nums Hr ++ τ)[sel[i]]? = some q
      rw [List.getElem?_append_left (by rw [hnH, ← hlen]; exact hl), ← hρ i _ e1, ← hin i hi]
      exact h
    · rw [List.getElem?_eq_none (show sel.length ≤ i by omega)]
      show (nums Hr ++ τ)[H.length + (i - sel.length)]? = some q
      rw [List.getElem?_append_right (by omega), hnH]
      rw [hτ, List.getElem?_append_right (by omega), hnp] at h
      rw [← h]
      congr 1; omega
  have hsig : ∀ i l : Nat, sel[i]? = some l → sigF sel H.length i = l := fun i l h => by unfold sigF; rw [h]
  have hsign : ∀ i, sel.length ≤ i → sigF sel H.length i = H.length + (i - sel.length) := fun i h => by unfold sigF; rw [List.getElem?_eq_none h]
  have cls : ∀ L it p, (frmH sel (sigF sel H.length) H0' H)[L]? = some it → (frmR sel A Hr)[L]? = some p →
      (∃ i jt, sigF sel H.length i = L ∧ H0'[i]? = some jt ∧ A[i]? = some p ∧ it = mapI (sigF sel H.length) jt) ∨ (∃ it0, L ∉ sel ∧ H[L]? = some it0 ∧ Hr[L]? = some p ∧ ((it = it0 ∧ it0.owner L ∉ sel) ∨ it = .gone)) := fun L it p h1 h2 => by
    by_cases hl : L < H.length
    · rw [frmH_old hl] at h1
      rw [frmR_old (by omega)] at h2
      rcases hi : idxOf L sel with _ | i
      · rw [hi] at h1 h2
        simp only [Option.some.injEq] at h1 h2
        refine .inr ⟨H[L], idxOf_none hi, List.getElem?_eq_getElem hl, by rw [← h2]; exact List.getElem?_eq_getElem _, ?_⟩
        rcases hm : memN (H[L].owner L) sel with _ | _
        · rw [hm, cond_false] at h1
          exact .inl ⟨h1.symm, fun hmem => by rw [memN_iff.2 hmem] at hm; cases hm⟩
        · rw [hm, cond_true] at h1
          exact .inr h1.symm
      · rw [hi] at h1 h2
        simp only [Option.some.injEq] at h1 h2
        have e1 := idxOf_get hi
        have hik : i < sel.length := (List.getElem?_eq_some_iff.1 e1).1
        have hiA : i < A.length := by omega
        have hiH : i < H0'.length := by omega
        rw [List.getD_eq_getElem?_getD, List.getElem?_eq_getElem hiH, Option.getD_some] at h1
        rw [List.getD_eq_getElem?_getD, List.getElem?_eq_getElem hiA, Option.getD_some] at h2
        exact .inl ⟨i, H0'[i], hsig i L e1, List.getElem?_eq_getElem hiH, by rw [← h2]; exact List.getElem?_eq_getElem hiA, h1.symm⟩
    · rw [frmH_new (by omega), Option.map_eq_some_iff] at h1
      rw [frmR_new (by omega)] at h2
      obtain ⟨jt, g1, g2⟩ := h1
      refine .inl ⟨sel.length + (L - H.length), jt, ?_, g1, by rw [← hlen]; exact h2, g2.symm⟩
      rw [hsign _ (by omega)]
      omega
  have disj0 : ∀ (L : Nat) (it0 : AIt) (p : RBlk), L ∉ sel → H[L]? = some it0 → Hr[L]? = some p → it0.live = true → it0.owner L ∉ sel → p.num.ph = false → ∀ (i : Nat) (q : Num), (nums (pick sel Hr))[i]? = some q → q.ph = false → q.b ≠ p.b := by
    intro L it0 p hL h1 h2 hlv how hp i q hq hqp hb
    have hi : i < sel.length := by have := (List.getElem?_eq_some_iff.1 hq).1; omega
    have e1 := List.getElem?_eq_getElem hi
    obtain ⟨it, jt, g1, g2, g3⟩ := hH i _ e1
    have hl := hv _ (List.mem_of_getElem? e1)
    have e2 : Hr[sel[i]]? = some Hr[sel[i]] := List.getElem?_eq_getElem hl
    rw [hρ i _ e1] at hq
    have e3 : q = (Hr[sel[i]]).num := by
      simp only [nums, List.getElem?_map, e2, Option.map_some, Option.some.injEq] at hq
      exact hq.symm
    subst e3
    have hlive1 : it.live = true := by rw [← renI_live g3]; exact liveB_get hlive g2
    have := hn L sel[i] it0 it p _ (fun e => hL (by rw [e]; exact List.mem_of_getElem? e1)) h1 g1 hlv hlive1 h2 e2 hp hqp hb.symm
    rw [this] at how
    exact how (List.mem_of_getElem? (renI_owner g3 e1))
  have disj : ∀ (L : Nat) (it0 : AIt) (p : RBlk), L ∉ sel → H[L]? = some it0 → Hr[L]? = some p → it0.live = true → it0.owner L ∉ sel → p.num.ph = false → ∀ q ∈ nums A, q.ph = false → q.b ≠ p.b := by
    intro L it0 p hL h1 h2 hlv how hp q hq hqp hb
    rw [hτ] at hq
    rcases List.mem_append.1 hq with hq | hq
    · obtain ⟨i, hi⟩ := List.getElem?_of_mem hq
      exact disj0 L it0 p hL h1 h2 hlv how hp i q hi hqp hb
    · rcases hfr q hq hqp with h | ⟨i, p', g1, g2, g3, _⟩
      · have := own_lt hO.1 hlen h2 hp
        omega
      · exact disj0 L it0 p hL h1 h2 hlv how hp i p' g1 g2 (g3.trans hb)
  have hSb : Stp wr Hr w (frmR sel A Hr) w' := by
    refine ⟨hS.os, hS.tape, hS.output, hS.size, ⟨τ, hnum, fun q hq hqp => ?_⟩, fun b hb hno => hS.block b hb fun i q hq hqp hqb => ?_⟩
    · rcases hfr q hq hqp with g | ⟨i, p, g1, g2, g3, g4⟩
      · exact .inl g
      refine .inr ?_
      have hi : i < sel.length := by have := (List.getElem?_eq_some_iff.1 g1).1; omega
      have e1 := List.getElem?_eq_getElem hi
      exact ⟨sel[i], p, by rw [← hρ i _ e1]; exact g1, g2, g3, hwr i _ e1 g4⟩
    · have hi : i < sel.length := by have := (List.getElem?_eq_some_iff.1 hq).1; omega
      have e1 := List.getElem?_eq_getElem hi
      have := hno sel[i] q (by rw [← hρ i _ e1]; exact hq) hqp hqb
      rcases hw0 : wr0 i with _ | _
      · rfl
      · rw [hwr i _ e1 hw0] at this; cases this
  refine ⟨V, frmR sel A Hr, rfl, Rel.mapS hσ hV, ⟨?_, fun L it p h1 h2 => ?_⟩, fun L M it jt p q hne h1 h2 v1 v2 q1 q2 z1 z2 hb => ?_, ⟨fun L it p h1 h2 hp => ?_, hSb.rd hO.2⟩, hSb⟩
  · simp only [frmR, frmH, List.length_append, List.length_mapIdx, List.length_drop, List.length_map]
    omega
  · rcases cls L it p h1 h2 with ⟨i, jt, g1, g2, g3, rfl⟩ | ⟨it0, g1, g2, g3, ⟨rfl, g4⟩ | rfl⟩
    · exact RelI.mapS hσ (hB'.2 i jt p g2 g3)
    · rw [hnum]; exact (hB.2 L _ p g2 g3).grow τ
    · exact .gone
  · rcases cls L it p h1 q1 with ⟨i, it1, g1, g2, g3, rfl⟩ | ⟨it1, g1, g2, g3, ⟨rfl, g4⟩ | rfl⟩
    · rcases cls M jt q h2 q2 with ⟨j, jt1, k1, k2, k3, rfl⟩ | ⟨jt1, k1, k2, k3, ⟨rfl, k4⟩ | rfl⟩
      · rw [← g1, ← k1, mapI_owner, mapI_owner]
        have hij : i ≠ j := fun e => hne (by rw [← g1, ← k1, e])
        rw [hn' i j it1 jt1 p q hij g2 k2 (by rw [← mapI_live (σ := sigF sel H.length)]; exact v1) (by rw [← mapI_live (σ := sigF sel H.length)]; exact v2) g3 k3 z1 z2 hb]
      · exact absurd hb (disj M _ q k1 k2 k3 v2 k4 z2 p.num (List.mem_map.2 ⟨p, List.mem_of_getElem? g3, rfl⟩) z1)
      · cases v2
    · rcases cls M jt q h2 q2 with ⟨j, jt1, k1, k2, k3, rfl⟩ | ⟨jt1, k1, k2, k3, ⟨rfl, k4⟩ | rfl⟩
      · exact absurd hb.symm (disj L _ p g1 g2 g3 v1 g4 z1 q.num (List.mem_map.2 ⟨q, List.mem_of_getElem? k3, rfl⟩) z2)
      · exact hn L M _ _ p q hne g2 k2 v1 v2 g3 k3 z1 z2 hb
      · cases v2
    · cases v1
  · rcases cls L it p h1 h2 with ⟨i, jt, g1, g2, g3, rfl⟩ | ⟨it0, g1, g2, g3, ⟨rfl, g4⟩ | rfl⟩
    · obtain ⟨k1, k2⟩ := hO'.1 i jt p g2 g3 hp
      exact ⟨k1, fun h => k2 (by rw [← mapI_live (σ := sigF sel H.length)]; exact h)⟩
    · obtain ⟨k1, k2⟩ := hO.1 L _ p g2 g3 hp
      refine ⟨Nat.lt_of_lt_of_le k1 hS.size, fun hlv => ?_⟩
      rw [hS.block p.b k1 fun i q hq hqp hqb => absurd hqb (disj0 L _ p g1 g2 g3 hlv g4 hp i q hq hqp)]
      exact k2 hlv
    · exact ⟨Nat.lt_of_lt_of_le (own_lt hO.1 hlen g3 hp) hS.size, fun h => by cases h⟩
/-- Of a memory only these labels are kept. -/
theorem sel_mem {H' H'' : Mem} {Hr' : List RBlk} {w' : World} {sel : List Nat} (hnd : nodupN sel = true) (hlen : sel.length = H''.length) (hat : ∀ i l : Nat, sel[i]? = some l → ∃ it jt, H'[l]? = some it ∧ H''[i]? = some jt ∧ renI sel it = some jt) (hB : RelB R (nums Hr') H' Hr') (hn : Apart H' Hr') (hO : OwnK R H' Hr' w') :
    (∀ l ∈ sel, l < Hr'.length) ∧ RelB R (nums (pick sel Hr')) H'' (pick sel Hr') ∧ Apart H'' (pick sel Hr') ∧ OwnK R H'' (pick sel Hr') w' := by
  have hl := hB.1
  have hv : ∀ l ∈ sel, l < Hr'.length := fun l hl' => by
    obtain ⟨i, hi⟩ := List.getElem?_of_mem hl'
    obtain ⟨it, _, h1, _⟩ := hat i l hi
    rw [hl]; exact (List.getElem?_eq_some_iff.1 h1).1
  have hρ : ∀ i l : Nat, sel[i]? = some l → (nums (pick sel Hr'))[i]? = (nums Hr')[l]? := fun i l h => nums_pick hv i l h
  have hsm : ∀ i jt, H''[i]? = some jt → ∃ l it, sel[i]? = some l ∧ H'[l]? = some it ∧ renI sel it = some jt := fun i jt h => by
    have hi : i < sel.length := by rw [hlen]; exact (List.getElem?_eq_some_iff.1 h).1
    obtain ⟨it, jt', h1, h2, h3⟩ := hat i _ (List.getElem?_eq_getElem hi)
    rw [h] at h2; cases h2
    exact ⟨_, it, List.getElem?_eq_getElem hi, h1, h3⟩
  refine ⟨hv, ⟨by rw [pick_len hv, hlen], fun i jt p h1 h2 => ?_⟩, fun i j jt kt p q hne h1 h2 v1 v2 q1 q2 z1 z2 hb => ?_, fun i jt p h1 h2 hp => ?_, hO.2.sub fun b hb => ?_⟩
  · obtain ⟨l, it, e1, e2, e3⟩ := hsm i jt h1
    rw [pick_get hv i l e1] at h2
    exact RelI.ren hρ e3 (hB.2 l it p e2 h2)
  · obtain ⟨l, it, e1, e2, e3⟩ := hsm i jt h1
    obtain ⟨m, lt, f1, f2, f3⟩ := hsm j kt h2
    rw [pick_get hv i l e1] at q1
    rw [pick_get hv j m f1] at q2
    have hlm : l ≠ m := fun e => by subst e; exact hne (nodup_inj hnd e1 f1)
    have := hn l m it lt p q hlm e2 f2 (by rw [← renI_live e3]; exact v1) (by rw [← renI_live f3]; exact v2) q1 q2 z1 z2 hb
    have g1 := renI_owner e3 e1
    rw [this] at g1
    exact nodup_inj hnd g1 (renI_owner f3 f1)
  · obtain ⟨l, it, e1, e2, e3⟩ := hsm i jt h1
    rw [pick_get hv i l e1] at h2
    obtain ⟨g1, g2⟩ := hO.1 l it p e2 h2 hp
    exact ⟨g1, fun h => g2 (by rw [← renI_live e3]; exact h)⟩
  · obtain ⟨q, h1, h2, h3⟩ := mem_bs.1 hb
    exact mem_bs.2 ⟨q, nums_pick_mem h1, h2, h3⟩
/-- What is not needed behind a step is dropped; what was there before stays. -/
theorem stp_sel {wr : Nat → Bool} {Hr Hr' : List RBlk} {w w' : World} {sel : List Nat} (hnd : nodupN sel = true) (hv : ∀ l ∈ sel, l < Hr'.length) (hk : sel.take Hr.length = List.range Hr.length) (hS : Stp wr Hr w Hr' w') : Stp wr Hr w (pick sel Hr') w' := by
  obtain ⟨τ, hτ, hfr⟩ := hS.ext
  have hkl : Hr.length ≤ sel.length := by
    have := congrArg List.length hk
    simp at this
    omega
  have hlow : ∀ i, i < Hr.length → sel[i]? = some i := fun i hi => by
    have := congrArg (fun z : List Nat => z[i]?) hk
    simpa [List.getElem?_take, hi] using this
  have hnp : (nums (pick sel Hr')).length = sel.length := by simp [nums, pick_len hv]
  have hnH : (nums Hr).length = Hr.length := by simp [nums]
  have hget : ∀ i l : Nat, sel[i]? = some l → (nums (pick sel Hr'))[i]? = (nums Hr')[l]? := fun i l h => nums_pick hv i l h
  refine ⟨hS.os, hS.tape, hS.output, hS.size, ⟨(nums (pick sel Hr')).drop Hr.length, ?_, fun q hq hqp => ?_⟩, hS.block⟩
  · refine List.ext_getElem? fun i => ?_
    by_cases hi : i < Hr.length
    · rw [List.getElem?_append_left (by rw [hnH]; exact hi), hget i i (hlow i hi), hτ, List.getElem?_append_left (by rw [hnH]; exact hi)]
    · rw [List.getElem?_append_right (by rw [hnH]; omega), List.getElem?_drop, hnH]
      congr 1; omega
  · obtain ⟨j, hj⟩ := List.getElem?_of_mem hq
    rw [List.getElem?_drop] at hj
    have hjl : Hr.length + j < sel.length := by rw [← hnp]; exact (List.getElem?_eq_some_iff.1 hj).1
    have e1 := List.getElem?_eq_getElem hjl
    rw [hget _ _ e1] at hj
    have hge : Hr.length ≤ sel[Hr.length + j] := Nat.le_of_not_lt fun hlt => by
      have := nodup_inj hnd e1 (hlow _ hlt)
      omega
    rw [hτ, List.getElem?_append_right (by rw [hnH]; exact hge)] at hj
    exact hfr q (List.mem_of_getElem? hj) hqp
/-- What a call leaves behind that nobody needs is dropped. -/
theorem calls_sel {P : Program} {f : FuncId} {Args : Array Value} {w : World} {H0 H' H'' : Mem} {Hr : List RBlk} {v v' : AV} {wr : Nat → Bool} (sel : List Nat) (hnd : nodupN sel = true) (hk : sel.take H0.length = List.range H0.length) (hH : Hr.length = H0.length) (hlen : sel.length = H''.length) (hat : sel.map (fun l => (H'[l]?).bind (renI sel)) = H''.map some) (hv : renA sel v = some v')
    (h : Calls P f Args w fun e w' => ∃ V Hr', e = .returned V ∧ Rel R (nums Hr') v V ∧ RelB R (nums Hr') H' Hr' ∧ Apart H' Hr' ∧ OwnK R H' Hr' w' ∧ Stp wr Hr w Hr' w') :
    Calls P f Args w fun e w' => ∃ V Hr', e = .returned V ∧ Rel R (nums Hr') v' V ∧ RelB R (nums Hr') H'' Hr' ∧ Apart H'' Hr' ∧ OwnK R H'' Hr' w' ∧ Stp wr Hr w Hr' w' := by
  refine h.mono ?_
  rintro e w' ⟨V, Hr', rfl, hV, hB, hn, hO, hS⟩
  have hat' : ∀ i l : Nat, sel[i]? = some l → ∃ it jt, H'[l]? = some it ∧ H''[i]? = some jt ∧ renI sel it = some jt := fun i l hi => by
    have h2 := congrArg (fun z : List (Option AIt) => z[i]?) hat
    simp only [List.getElem?_map, hi, Option.map_some] at h2
    have hi' : i < H''.length := by rw [← hlen]; exact (List.getElem?_eq_some_iff.1 hi).1
    rw [List.getElem?_eq_getElem hi', Option.map_some, Option.some.injEq, Option.bind_eq_some_iff] at h2
    obtain ⟨p, h3, h4⟩ := h2
    exact ⟨p, _, h3, List.getElem?_eq_getElem hi', h4⟩
  obtain ⟨g1, g2, g3, g4⟩ := sel_mem hnd hlen hat' hB hn hO
  exact ⟨V, pick sel Hr', rfl, Rel.ren (fun i l h => nums_pick g1 i l h) hv hV, g2, g3, g4, stp_sel hnd g1 (by rw [hH]; exact hk) hS⟩
/-- A memory whose rows are told in another way. -/
def eqvI : AIt → AIt → Prop
  | .row n s F t own, .row n' s' G t' own' => n = n' ∧ s = s' ∧ t = t' ∧ own = own' ∧ ∀ i, i < n → AV.vals? (F i) = AV.vals? (G i)
  | a, b => a = b
theorem eqvI.rel {ρ : Nums} {a b : AIt} {p : RBlk} (h : eqvI a b) (hr : RelI R ρ a p) : RelI R ρ b p := by
  unfold eqvI at h
  split at h
  · obtain ⟨rfl, rfl, rfl, rfl, h⟩ := h
    cases hr with
    | row a1 c d e f => exact .row (fun i hi => by obtain ⟨U, u1, u2⟩ := a1 i hi; exact ⟨U, by rw [← h i hi]; exact u1, u2⟩) c d e f
    | row0 hp => exact .row0 hp
  · subst h; exact hr
theorem eqvI.live {a b : AIt} (h : eqvI a b) : b.live = a.live := by
  unfold eqvI at h
  split at h
  · obtain ⟨rfl, rfl, rfl, rfl, h⟩ := h
    rename_i own _; cases own <;> rfl
  · subst h; rfl
theorem eqvI.owner {a b : AIt} (h : eqvI a b) (l : Nat) : b.owner l = a.owner l := by
  unfold eqvI at h
  split at h
  · obtain ⟨rfl, rfl, rfl, rfl, h⟩ := h
    rename_i own _; cases own <;> rfl
  · subst h; rfl
def eqvM : Mem → Mem → Prop
  | [], [] => True
  | a :: r, b :: q => eqvI a b ∧ eqvM r q
  | _, _ => False
theorem eqvM.len : ∀ {H G : Mem}, eqvM H G → H.length = G.length
  | [], [], _ => rfl
  | _ :: _, _ :: _, h => by rw [List.length_cons, List.length_cons, eqvM.len h.2]
theorem eqvM.at : ∀ {H G : Mem}, eqvM H G → ∀ (l : Nat) b, G[l]? = some b → ∃ a, H[l]? = some a ∧ eqvI a b
  | [], [], _, l, b, h => by simp at h
  | a :: r, b :: q, h, 0, c, hc => by simp at hc; subst hc; exact ⟨a, rfl, h.1⟩
  | a :: r, b :: q, h, l + 1, c, hc => by
    obtain ⟨x, h1, h2⟩ := eqvM.at h.2 l c (by simpa using hc)
    exact ⟨x, by simpa using h1, h2⟩
theorem eqvM.mem {H G : Mem} {Hr : List RBlk} {w : World} (h : eqvM H G) (hB : RelB R (nums Hr) H Hr) (hn : Apart H Hr) (hO : OwnK R H Hr w) : RelB R (nums Hr) G Hr ∧ Apart G Hr ∧ OwnK R G Hr w := by
  refine ⟨⟨hB.1.trans h.len, fun l b p h1 h2 => ?_⟩, fun i j b c p q hne h1 h2 v1 v2 q1 q2 z1 z2 hb => ?_, fun l b p h1 h2 hp => ?_, hO.2⟩
  · obtain ⟨a, g1, g2⟩ := h.at l b h1
    exact g2.rel (hB.2 l a p g1 h2)
  · obtain ⟨a, g1, g2⟩ := h.at i b h1
    obtain ⟨d, k1, k2⟩ := h.at j c h2
    have := hn i j a d p q hne g1 k1 (by rw [← g2.live]; exact v1) (by rw [← k2.live]; exact v2) q1 q2 z1 z2 hb
    rw [g2.owner, k2.owner]; exact this
  · obtain ⟨a, g1, g2⟩ := h.at l b h1
    obtain ⟨k1, k2⟩ := hO.1 l a p g1 h2 hp
    exact ⟨k1, fun hl => k2 (by rw [← g2.live]; exact hl)⟩
theorem calls_eqv {P : Program} {f : FuncId} {Args : Array Value} {w : World} {H' H'' : Mem} {Hr : List RBlk} {v : AV} {wr : Nat → Bool} (he : eqvM H' H'')
    (h : Calls P f Args w fun e w' => ∃ V Hr', e = .returned V ∧ Rel R (nums Hr') v V ∧ RelB R (nums Hr') H' Hr' ∧ Apart H' Hr' ∧ OwnK R H' Hr' w' ∧ Stp wr Hr w Hr' w') :
    Calls P f Args w fun e w' => ∃ V Hr', e = .returned V ∧ Rel R (nums Hr') v V ∧ RelB R (nums Hr') H'' Hr' ∧ Apart H'' Hr' ∧ OwnK R H'' Hr' w' ∧ Stp wr Hr w Hr' w' := by
  refine h.mono ?_
  rintro e w' ⟨V, Hr', rfl, hV, hB, hn, hO, hS⟩
  obtain ⟨g1, g2, g3⟩ := he.mem hB hn hO
  exact ⟨V, Hr', rfl, hV, g1, g2, g3, hS⟩
end Go.Proofs.Ytcfomhnfhalmaaa
