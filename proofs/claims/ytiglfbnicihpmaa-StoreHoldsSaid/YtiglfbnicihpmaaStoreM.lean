/- The law StoreHolds: what it needs beside its pieces. No condition. -/
import Derived.Test.YtiglfbnicihpmaaStoreLd
set_option linter.unusedVariables false
set_option linter.unusedSimpArgs false
set_option maxRecDepth 100000
namespace Go.Proofs.Ytiglfbnicihpmaa
open Go.RowKit

theorem seqJ {R : Rws} {D : List Deferred} {live : List (Nat × AV)} {n b1 b2 lr n1 : Nat} {H : Mem} {ds : List Bool} {wr : Nat → Bool} {a : Act} {Hr : List RBlk} {w : World} {fz : List Nat} {x0 : Vl} {xs : List Vl} {Fx : Nat → List AV} {cs : List AV} {m : Nat} (hn : n1 = xs.length) (hl0 : 0 < xs.length) (hl9 : xs.length ≤ 1000)
    (hP : PatSt R D live n ⟨H, ds, wr⟩ a Hr) (hO : OwnK R H Hr w) (hv : liveB H = true) (h1 : H[b1]? = some (.cells cs 27)) (hc : AV.vals? cs = some x0.cells) (h2 : H[b2]? = some (.cells [.gsl .top lr 0 n1] 38)) (h3 : H[lr]? = some (.row n1 5 Fx 27 none)) (hF : ∀ i, i < n1 → AV.vals? (Fx i) = some (xs.getD i v0).cells)
    (o1 : ownB b1 fz 0 H = true) (o2 : ownB b2 fz 0 H = true) (o3 : ownB lr fz 0 H = true) (hm : UptoR x0 xs m) (lb : List Value) (hlb : RelL R (nums Hr) [.ptr b1 0, .ptr b2 0] lb) : Seq Try.prog 32 lb.toArray encR (zsR x0 xs m) (Sfz fz Hr w) w := by
  obtain ⟨r, vs, _, _, hBl, hA⟩ := hP
  obtain ⟨p1, e1, r1⟩ := hBl.at h1
  obtain ⟨p2, e2, r2⟩ := hBl.at h2
  obtain ⟨p3, e3, r3⟩ := hBl.at h3
  cases hlb with | cons l1 hlb => cases hlb with | cons l2 hlb =>
  cases hlb
  obtain ⟨q1, m1, rfl⟩ := rel_ptr l1
  obtain ⟨q2, m2, rfl⟩ := rel_ptr l2
  obtain rfl := Option.some.inj ((nums_get e1).symm.trans m1)
  obtain rfl := Option.some.inj ((nums_get e2).symm.trans m2)
  cases r1 with | cells c1 hp1 =>
  cases r2 with | cells c2 hp2 =>
  have c1 := c1.vals hc
  subst c1
  cases c2 with | cons g1 g2 =>
  cases g2
  cases g1 with | gsl gb gn ga gk gm =>
  obtain rfl := Option.some.inj ((nums_get e3).symm.trans gb)
  have hA3 := ga.resolve_left (by omega)
  obtain ⟨rfl, hp3⟩ := hA3
  have hb1 : Blk w _ _ _ := (hO.1 b1 _ _ h1 e1 hp1).2 rfl
  have hb2 : Blk w _ _ _ := (hO.1 b2 _ _ h2 e2 hp2).2 rfl
  have s1 := sfz_of hBl hA hO.1 hv h1 e1 hp1 o1
  have s2 := sfz_of hBl hA hO.1 hv h2 e2 hp2 o2
  have s3 := sfz_of hBl hA hO.1 hv h3 e3 hp3 o3
  cases r3 with
  | row0 _ => exact absurd hn (by omega)
  | row h hcs hle hmx hs =>
  have hb3 : Blk w _ _ _ := (hO.1 lr _ _ h3 e3 hp3).2 rfl
  have hS : SlAt w (some ⟨_, 0, none⟩) (xs.flatMap Vl.cells) := .inr ⟨_, 0, rfl, hb3.lt, fun j u hu => by
    have hj5 : (xs.flatMap Vl.cells).length = xs.length * 5 := by
      clear hu hF hn hl0 hl9 hm
      induction xs with
      | nil => rfl
      | cons x r ih => rw [List.flatMap_cons, List.length_append, ih]; simp [Vl.cells]; omega
    have hj : j < xs.length * 5 := by rw [← hj5]; exact (List.getElem?_eq_some_iff.1 hu).1
    have hx : xs[j / 5]? = some (xs.getD (j / 5) v0) := by rw [List.getD_eq_getElem?_getD, List.getElem?_eq_getElem (by omega)]; rfl
    have hf := flat_at (f := Vl.cells) (n := 5) (fun _ => rfl) xs (j / 5) _ hx (j % 5) (by omega)
    rw [show j / 5 * 5 + j % 5 = j by omega, hu] at hf
    obtain ⟨V, v1, v2, _, v4⟩ := h (j / 5) (by omega)
    rw [hF (j / 5) (by omega)] at v1
    obtain rfl := Option.some.inj v1
    have := v4 (j % 5) u hf.symm
    rw [show j / 5 * 5 + j % 5 = j by omega] at this
    rw [Nat.zero_add, hb3.cell]
    exact this⟩
  subst hn
  refine total1_seq _ _ _ x0 xs _ m w (Sfz fz Hr w) (hb1.cell 0) (hb1.cell 1) (hb1.cell 2) (hb1.cell 3) (hb1.cell 4) (hb2.cell 0) (by rw [Nat.zero_mul]; exact hS) gn hl9 s1 s2 (fun _ b' off ha => ?_) hm
  cases ha
  exact s3
theorem patSt_int {R : Rws} {D : List Deferred} {live : List (Nat × AV)} {n d : Nat} {m : AM} {a : Act} {Hr : List RBlk} {k : IntKind} {l l' : Bool} {x : Int} (hP : PatSt R D live n m a Hr) (hkeys : live.all (fun p => Nat.blt p.1 n) = true) (hd : d < n) (hl : look d live = some (.int k l x)) : PatSt R D ((d, .int k l' x) :: live) n m a Hr := by
  obtain ⟨r, vs, rfl, ht, hB, hA⟩ := hP
  have hg := pat_get (r := r) hl hd
  obtain ⟨V, h1, h2⟩ := ht.get hg
  have hV : V = .int k x := by cases h2; rfl
  subst hV
  refine patSt_of (live := live) (st := ⟨(pat live r 0 n).set d (.int k l' x), m⟩) ⟨vs, rfl, ht.setSame h1 .int, hB, hA⟩ (by simp [pat_len]) (fun i u hu => ?_)
  unfold look at hu
  cases hb' : Nat.beq i d <;> simp only [hb', cond_true, cond_false] at hu
  · have hne : i ≠ d := Nat.ne_of_beq_eq_false hb'
    rw [List.getElem?_set_ne (Ne.symm hne)]
    exact pat_get hu (look_lt hkeys hu)
  · rw [Nat.eq_of_beq_eq_true hb']; cases hu
    rw [List.getElem?_set_self (by rw [pat_len]; exact hd)]
theorem exC_lo (x y z : Vl) : 100 ≤ exC x y z := by unfold exC; split <;> (try split) <;> (try split) <;> omega
theorem exM_hi (x y z : Vl) : exM x y z ≤ 19900 := by
  unfold exM
  rcases h : noW x with _ | _ <;> simp <;> (repeat' split) <;> omega
theorem neC_same (n lo hi a : Int) : neC n n lo hi a a = false := by simp [neC]
theorem neC_lab {a : Int} (n n' lo hi : Int) (ha : a ≠ 0) : neC n n' lo hi a a = false := by simp [neC, bdI, ha]
def xsS (m0 : Vl) (bs : List Vl) : List Vl := (bs ++ [m0]).map vz
theorem xsS_len (m0 : Vl) (bs : List Vl) : (xsS m0 bs).length = bs.length + 1 := by simp [xsS]
theorem xsS_l (m0 : Vl) (bs : List Vl) : ∀ x ∈ xsS m0 bs, x.l = 0 := by
  intro x hx
  obtain ⟨y, _, rfl⟩ := List.mem_map.1 hx
  rfl
theorem xsS_at (m0 : Vl) (bs : List Vl) (i : Nat) : (xsS m0 bs).getD i v0 = vz ((bs ++ [m0]).getD i v0) := by
  unfold xsS
  rw [List.getD_eq_getElem?_getD, List.getD_eq_getElem?_getD, List.getElem?_map]
  cases (bs ++ [m0])[i]? <;> rfl
def eqS (m0 : Vl) (bs : List Vl) (k : Nat) : Bool := (false != (eqW (bs.getD (Int.toNat (((0 : Nat) : Int) + ((k : Nat) : Int))) v0) m0))
/-- Is it told for certain; did nothing change. -/
def sS (m0 : Vl) (bs : List Vl) : Nat → Bool × Bool
  | 0 => (false, true)
  | k + 1 => if k < bs.length then (bif (sS m0 bs k).2 then (false, eqS m0 bs k) else (true, false)) else sS m0 bs k
theorem sS_inv (m0 : Vl) (bs : List Vl) : ∀ k, (sS m0 bs k).1 = true → (sS m0 bs k).2 = false
  | 0, h => by cases h
  | k + 1, h => by
    unfold sS at h ⊢
    split
    · rename_i hk
      rw [if_pos hk] at h
      cases h2 : (sS m0 bs k).2 <;> simp only [h2, cond_true, cond_false] at h ⊢
      cases h
    · rename_i hk
      rw [if_neg hk] at h
      exact sS_inv m0 bs k h
theorem eqS_same {m0 : Vl} {bs : List Vl} {k : Nat} (hk : k < bs.length) (h : eqS m0 bs k = true) : sameW (atV (xsS m0 bs) k) (vz m0) = true := by
  have e : atV (xsS m0 bs) k = vz (bs.getD k v0) := by
    show (xsS m0 bs).getD k v0 = _
    rw [xsS_at, List.getD_eq_getElem?_getD, List.getD_eq_getElem?_getD, List.getElem?_append_left hk]
  rw [e]
  have e2 : Int.toNat (((0 : Nat) : Int) + ((k : Nat) : Int)) = k := by omega
  unfold eqS at h
  rw [e2] at h
  generalize bs.getD k v0 = b at *
  simp [eqW] at h
  simp [sameW, vz, h]
theorem sS_same {m0 : Vl} {bs : List Vl} : ∀ k, k ≤ bs.length → (sS m0 bs k).2 = true → ∀ j, j < k → sameW (atV (xsS m0 bs) j) (vz m0) = true
  | 0, _, _ => fun j hj => absurd hj (by omega)
  | k + 1, hk, h => fun j hj => by
    unfold sS at h
    rw [if_pos (show k < bs.length by omega)] at h
    cases h2 : (sS m0 bs k).2 <;> simp only [h2, cond_true, cond_false] at h
    · cases h
    · rcases Nat.lt_or_ge j k with hjk | hjk
      · exact sS_same k (by omega) h2 j hjk
      · obtain rfl : j = k := by omega
        exact eqS_same (by omega) h
theorem last_same (m0 : Vl) (bs : List Vl) : sameW (atV (xsS m0 bs) bs.length) (vz m0) = true := by
  have e : atV (xsS m0 bs) bs.length = vz m0 := by
    show (xsS m0 bs).getD bs.length v0 = _
    rw [xsS_at, List.getD_eq_getElem?_getD, List.getElem?_append_right (Nat.le_refl _)]
    simp
  rw [e]; simp [sameW]
def dsS (m0 : Vl) (bs : List Vl) (k : Nat) : List Bool := [false, false, false, false] ++ (if k < bs.length then (bif (sS m0 bs k).1 then [true] else (bif (sS m0 bs k).2 then (bif eqS m0 bs k then [true, true, true, false] else [true, true, false]) else [true, false])) else (bif (sS m0 bs k).1 then [false] else (bif (sS m0 bs k).2 then [false, true, false] else [false, false])))
theorem gR_last {m0 : Vl} {bs : List Vl} {k : Nat} (hk : k ≤ bs.length) (h : ∀ j, j < k + 1 → sameW (atV (xsS m0 bs) j) (vz m0) = true) : gR (vz m0) (xsS m0 bs) (k + 1) = fxK 0 :=
  (still_fx (x0 := vz m0) rfl (xsS_l m0 bs) (k + 1) (by rw [xsS_len]; omega) h).1
end Go.Proofs.Ytiglfbnicihpmaa
