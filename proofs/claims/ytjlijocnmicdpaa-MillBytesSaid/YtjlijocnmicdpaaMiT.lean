/- Words for roots; labels that are gone back to. No condition. -/
import Derived.Test.YtjlijocnmicdpaaEyU
import Derived.Test.YtjlijocnmicdpaaEyZ
import Derived.Test.YtjlijocnmicdpaaMulV
import Derived.Test.YtjlijocnmicdpaaOrdB
import Derived.Test.YtjlijocnmicdpaaRefM
import Derived.Test.YtjlijocnmicdpaaWoAdd
import Derived.Test.YtjlijocnmicdpaaSpP
import Derived.Test.YtjlijocnmicdpaaOrd
import Derived.ScopeJumps
import Derived.WalkMore
set_option linter.unusedVariables false
set_option linter.unusedSimpArgs false
set_option maxRecDepth 100000
namespace Go.Proofs.Ytjlijocnmicdpaa
open Go.RowKit

theorem L_small {n : Nat} (h : n < 18446744073709551616) : L (BitVec.ofNat 256 n) 0 = n ∧ L (BitVec.ofNat 256 n) 1 = 0 ∧ L (BitVec.ofNat 256 n) 2 = 0 ∧ L (BitVec.ofNat 256 n) 3 = 0 := small_parts n h
set_option maxRecDepth 20000 in
set_option maxHeartbeats 2000000 in
theorem refOfW (n : Nat) (hn : n < 18446744073709551616) (w : World)  : Calls Try.prog 43 #[.int .u64 n] w fun e w' => e = .returned (W (BitVec.ofNat 256 n)) ∧ Below w.heap.size w w' := by
  obtain ⟨o0, o1, o2, o3⟩ := L_small hn
  go_enter Try.func43, Try.ntmps43
  go_wp2_with fail
  refine bodyPost_ret (v := W (BitVec.ofNat 256 n)) (by simp [results, Try.results43, go_sem, *]) rfl ?_
  exact ⟨rfl, by go_grown⟩
/-- A word, told by its cells. -/
def wordV : List AV → Option (BitVec 256)
  | [c0, c1, c2, c3] => asW (.agg [c0, c1, c2, c3])
  | _ => none
theorem wordV_vals {l : List AV} {x : BitVec 256} (h : wordV l = some x) : AV.vals? l = some (wl x) := by
  unfold wordV at h
  split at h
  · rename_i c0 c1 c2 c3
    unfold asW at h
    simp only at h
    split at h
    · rename_i a b c d h0 h1 h2 h3
      cases h
      have key : ∀ {v : AV} {a : BitVec 64}, asB64 v = some a → v.val? = some (.int .u64 (a.toNat : Int)) := fun {v a} hv => by
        obtain ⟨V0, h0⟩ : ∃ V0, v.val? = some V0 := by
          unfold asB64 AV.asBv at hv
          split at hv
          · split at hv
            · rename_i e; subst e; exact ⟨_, by simp [AV.val?, IntKind.signed]; rfl⟩
            · cases hv
          · exact ⟨_, rfl⟩
          · cases hv
        rw [h0, asBv_sound (R := noRows) (ρ := []) hv (Rel.of_val h0) rfl]
        rfl
      have hm := W_mkW a b c d
      have hl : wl (mkW a b c d) = [.int .u64 (a.toNat : Int), .int .u64 (b.toNat : Int), .int .u64 (c.toNat : Int), .int .u64 (d.toNat : Int)] := by
        unfold W at hm
        injection hm with hm
        have := congrArg Array.toList hm
        simpa [wl] using this
      rw [hl]
      simp [AV.vals?, key h0, key h1, key h2, key h3]
    · cases h
  · cases h
def wordsB (G : Nat → List AV) (m : Nat) : Bool := (List.range m).all fun i => (wordV (G i)).isSome
def wordsOf (G : Nat → List AV) (m : Nat) : List (BitVec 256) := (List.range m).map fun i => (wordV (G i)).getD 0#256
def ctrAdd (R : Rws) : CtrF
  | [x], H => match newsA R H 4 x with
    | some (m, G, cs) => some (wA ((wordsOf G m).foldl (· + ·) 0), decide (m ≤ 1000) :: wordsB G m :: cs)
    | none => none
  | _, _ => none
theorem ctrAdd_ok {R : Rws} (hR : RwOK R) : Good Try.prog R 40 (ctrAdd R) := by
  refine ⟨enters_of Try.func40 (by kernel_rfl) rfl, fun args H v cs hv hcs => ?_⟩
  unfold ctrAdd at hv
  split at hv
  · rename_i x H'
    split at hv
    · rename_i m G cs' hn
      cases hv
      have hm := of_decide_eq_true (hcs _ (List.mem_cons_self ..))
      have hb := hcs _ (List.mem_cons_of_mem _ (List.mem_cons_self ..))
      refine ⟨_, told_wA _, fun Hr Args ha hB hA w hO => ?_⟩
      cases ha with | cons a1 ha =>
      cases ha
      obtain ⟨A, c, rfl, hs⟩ := newsA_slAt (by decide) hR hB hn (fun c hc => hcs c (List.mem_cons_of_mem _ (List.mem_cons_of_mem _ hc))) a1
      have h1 := hs (fun i => wl ((wordV (G i)).getD 0#256)) (fun i hi => by
        have := List.all_eq_true.1 hb i (List.mem_range.2 hi)
        obtain ⟨y, hy⟩ := Option.isSome_iff_exists.1 this
        rw [wordV_vals hy, hy]; rfl) w hO
      have e : (List.range m).flatMap (fun i => wl ((wordV (G i)).getD 0#256)) = (wordsOf G m).flatMap wl := by
        unfold wordsOf
        rw [List.flatMap_map]
      rw [e] at h1
      have := addL_any A (wordsOf G m) c w h1 (by simp [wordsOf]; omega)
      rw [show (wordsOf G m).length = m by simp [wordsOf]] at this
      exact this
    · cases hv
  · cases hv
noncomputable def tabT (R : Rws) : List (Nat × CtrF) := [(40, ctrAdd R),
  (42, ctrTT asW asW (fun (x : BitVec 256) (y : BitVec 256) => wA (x * y))),
  (41, ctrTT asW asW (fun (x : BitVec 256) (y : BitVec 256) => .int .i64 false (ordW x y))),
  (43, ctrT asN (fun (x : BitVec 64) => wA (BitVec.ofNat 256 x.toNat))),
  (44, ctrTT asW asW (fun (x : BitVec 256) (y : BitVec 256) => wA (x + y))),
  (59, ctrTT asW asW (fun (x : BitVec 256) (y : BitVec 256) => wA (x * y))),
  (45, ctrTT asW asW (fun (x : BitVec 256) (y : BitVec 256) => .int .i64 false (ordW x y)))]
theorem tabT_ok {R : Rws} (hR : RwOK R) : ∀ p ∈ tabT R, Good Try.prog R p.1 p.2 := by
  have h0 : Good Try.prog R 40 ( ctrAdd R) := ctrAdd_ok hR
  have h1 : Good Try.prog R 42 ( ctrTT asW asW (fun (x : BitVec 256) (y : BitVec 256) => wA (x * y))) := ctrTT_ok (ea := W) (eb := W) (V := fun (x : BitVec 256) (y : BitVec 256) => W (x * y)) (fun h => asW_rel h) (fun h => asW_rel h) (enters_of Try.func42 (by kernel_rfl) rfl) (fun _ _ => told_wA _) (fun x y w => wordMul_any x y w)
  have h2 : Good Try.prog R 41 ( ctrTT asW asW (fun (x : BitVec 256) (y : BitVec 256) => .int .i64 false (ordW x y))) := ctrTT_ok (ea := W) (eb := W) (V := fun (x : BitVec 256) (y : BitVec 256) => .int .i64 (ordW x y)) (fun h => asW_rel h) (fun h => asW_rel h) (enters_of Try.func41 (by kernel_rfl) rfl) (fun _ _ => rfl) (fun x y w => orderW x y w)
  have h3 : Good Try.prog R 43 ( ctrT asN (fun (x : BitVec 64) => wA (BitVec.ofNat 256 x.toNat))) := ctrT_ok (enc := (fun x : BitVec 64 => Value.int .u64 (x.toNat : Int))) (V := fun (x : BitVec 64) => W (BitVec.ofNat 256 x.toNat)) (fun h => asN_rel h) (enters_of Try.func43 (by kernel_rfl) rfl) (fun _ => told_wA _) (fun x w => refOfW x.toNat x.isLt w)
  have h4 : Good Try.prog R 44 ( ctrTT asW asW (fun (x : BitVec 256) (y : BitVec 256) => wA (x + y))) := ctrTT_ok (ea := W) (eb := W) (V := fun (x : BitVec 256) (y : BitVec 256) => W (x + y)) (fun h => asW_rel h) (fun h => asW_rel h) (enters_of Try.func44 (by kernel_rfl) rfl) (fun _ _ => told_wA _) (fun x y w => refAddW x y w)
  have h5 : Good Try.prog R 59 ( ctrTT asW asW (fun (x : BitVec 256) (y : BitVec 256) => wA (x * y))) := ctrTT_ok (ea := W) (eb := W) (V := fun (x : BitVec 256) (y : BitVec 256) => W (x * y)) (fun h => asW_rel h) (fun h => asW_rel h) (enters_of Try.func59 (by kernel_rfl) rfl) (fun _ _ => told_wA _) (fun x y w => refMulW x y w)
  have h6 : Good Try.prog R 45 ( ctrTT asW asW (fun (x : BitVec 256) (y : BitVec 256) => .int .i64 false (ordW x y))) := ctrTT_ok (ea := W) (eb := W) (V := fun (x : BitVec 256) (y : BitVec 256) => .int .i64 (ordW x y)) (fun h => asW_rel h) (fun h => asW_rel h) (enters_of Try.func45 (by kernel_rfl) rfl) (fun _ _ => rfl) (fun x y w => refOrderW x y w)
  exact good_cons (p := (_, _)) h0 (good_cons (p := (_, _)) h1 (good_cons (p := (_, _)) h2 (good_cons (p := (_, _)) h3 (good_cons (p := (_, _)) h4 (good_cons (p := (_, _)) h5 (good_cons (p := (_, _)) h6 (good_nil)))))))
noncomputable def ET : Env := mkEnvM noRows (tabT noRows) []
theorem ET_ok : EnvOK ET := mkEnvM_ok rwOK_no (tabT_ok rwOK_no) goodM_nil
theorem exists_min (p : Nat → Prop) (h : ∃ m, p m) : ∃ m, p m ∧ ∀ m', p m' → m ≤ m' := by
  obtain ⟨m, hm⟩ := h
  induction m using Nat.strongRecOn with
  | _ m ih =>
    by_cases h2 : ∃ m', m' < m ∧ p m'
    · obtain ⟨m', h3, h4⟩ := h2
      exact ih m' h3 h4
    · exact ⟨m, hm, fun m' h' => Nat.le_of_not_lt fun hlt => h2 ⟨m', hlt, h'⟩⟩
open Classical in
noncomputable def muK (N : Nat) (J : Nat → Act → World → Prop) (a : Act) (w : World) : Nat := if h : ∃ m, ∃ k, k < N ∧ J k a w ∧ m = N - k then Classical.choose (exists_min _ h) else 0
/-- A label that is gone back to, round by round. -/
theorem wp_scope_iter {P : Program} {a : Act} {w : World} {Q : Exit → Act → World → Prop} {c r : Code} (l N : Nat) (J : Nat → Act → World → Prop) (hf : findLabel c l = some (Code.seq .skip r))
    (pass : ∀ k, k < N → ∀ a w, J k a w → r.wp P (Exit.jump l (fun a' w' => k + 1 < N ∧ J (k + 1) a' w') Q) a w)
    (first : (∀ a w, J 0 a w → r.wp P (Exit.jump l (fun a' w' => ∃ k, k < N ∧ J k a' w') Q) a w) → c.wp P (Exit.jump l (fun a' w' => ∃ k, k < N ∧ J k a' w') Q) a w) (hN : 0 < N) : (Code.scope c).wp P Q a w := by
  refine wp_scope_jumps l (fun a w => ∃ k, k < N ∧ J k a w) (muK N J) hf (first fun a w h => wp_mono (pass 0 hN a w h) fun e a' w' hq => ?_) fun a w h => ?_
  · cases e with
    | goto l' => exact ⟨hq.1, _, hq.2.1, hq.2.2⟩
    | _ => exact hq
  · have hm : ∃ m, ∃ k, k < N ∧ J k a w ∧ m = N - k := by obtain ⟨k, h1, h2⟩ := h; exact ⟨_, k, h1, h2, rfl⟩
    have hmu : muK N J a w = Classical.choose (exists_min _ hm) := dif_pos hm
    obtain ⟨⟨k, h1, h2, h3⟩, _⟩ := Classical.choose_spec (exists_min _ hm)
    rw [← hmu] at h3
    refine wp_seq (wp_skip (wp_mono (pass k h1 a w h2) fun e a' w' hq => ?_))
    cases e with
    | goto l' =>
      refine ⟨hq.1, ⟨_, hq.2.1, hq.2.2⟩, ?_⟩
      have hm' : ∃ m, ∃ k, k < N ∧ J k a' w' ∧ m = N - k := ⟨_, k + 1, hq.2.1, hq.2.2, rfl⟩
      have hmu' : muK N J a' w' = Classical.choose (exists_min _ hm') := dif_pos hm'
      have := (Classical.choose_spec (exists_min _ hm')).2 _ ⟨k + 1, hq.2.1, hq.2.2, rfl⟩
      rw [← hmu'] at this
      omega
    | _ => exact hq
def lbR (c : Code) (l : Nat) : Code := match findLabel c l with
  | some (.seq .skip r) => r
  | _ => .skip
def hasL (c : Code) (l : Nat) : Bool := match findLabel c l with
  | some (.seq .skip _) => true
  | _ => false
theorem hasL_some {c : Code} {l : Nat} (h : hasL c l = true) : findLabel c l = some (Code.seq .skip (lbR c l)) := by
  unfold hasL at h
  unfold lbR
  split at h
  · rename_i e; rw [e]
  · cases h
section
variable {E : Env} (hE : EnvOK E) {Ds : List Nat} {n0 : Nat} {w0 : World}
include hE
omit hE in
/-- The label is gone back to, from one state that is known to the next. -/
theorem ev_iter {c : Code} (hc : isSc c = true) (l N : Nat) (hN : 0 < N) (hl : hasL (scB c) l = true) {n : Nat} (live : Nat → List (Nat × AV)) (H : Nat → Mem) {Q : Exit → Act → World → Prop}
    (pass : ∀ k, k < N → ∀ a Hr w (Q' : Exit → Act → World → Prop), PatSt E.rows (Ds.map markD) (live k) n ⟨H k, [], allW⟩ a Hr → Bun E.rows Ds n0 w0 (H k) Hr w →
      (k + 1 < N → ∀ a' Hr' w', PatSt E.rows (Ds.map markD) (live (k + 1)) n ⟨H (k + 1), [], allW⟩ a' Hr' → Bun E.rows Ds n0 w0 (H (k + 1)) Hr' w' → Q' (.goto l) a' w') →
      (∀ e a' w', (∀ i, e ≠ .goto i) → Q e a' w' → Q' e a' w') → (lbR (scB c) l).wp E.P Q' a w)
    {a : Act} {w : World}
    (first : ∀ (Q' : Exit → Act → World → Prop), (∀ a Hr w, PatSt E.rows (Ds.map markD) (live 0) n ⟨H 0, [], allW⟩ a Hr → Bun E.rows Ds n0 w0 (H 0) Hr w → (lbR (scB c) l).wp E.P Q' a w) → (scB c).wp E.P Q' a w) : c.wp E.P Q a w := by
  cases c <;> first | cases hc | skip
  rename_i c
  refine wp_scope_iter (r := lbR c l) l N (fun k a w => ∃ Hr, PatSt E.rows (Ds.map markD) (live k) n ⟨H k, [], allW⟩ a Hr ∧ Bun E.rows Ds n0 w0 (H k) Hr w) (hasL_some hl) ?_ ?_ hN
  · rintro k hk a w ⟨Hr, hP, hB⟩
    refine pass k hk a Hr w _ hP hB (fun h a' Hr' w' hP' hB' => ⟨rfl, h, Hr', hP', hB'⟩) fun e a' w' he hQ => ?_
    cases e <;> first | exact hQ | exact absurd rfl (he _)
  · intro h0
    exact first _ fun a Hr w hP hB => h0 a w ⟨Hr, hP, hB⟩
/-- The end of a function: its results are told. -/
theorem ev_done {live : List (Nat × AV)} {n : Nat} {m : AM} {r : AV} {V : Value} {fn : Func} (hvs : ∀ rs, resA E.P E.rows m.H (pat live rs 0 n) fn.results.toList = some [r]) (hV : r.told? = some V)
    (hp : ∀ j r, E.rows j = some r → 0 < r.n → 0 < (r.V 0).length)
    {a : Act} {Hr : List RBlk} {w : World} (hP : PatSt E.rows (Ds.map markD) live n m a Hr) (hB : Bun E.rows Ds n0 w0 m.H Hr w) {e : Exit} (he : e = .ret ∨ e = .normal) :
    bodyPostM Fence.wide 0 E.P fn (fun e w' => e = .returned V ∧ Below n0 w0 w') e a w := by
  obtain ⟨rs, hR⟩ := hP
  have hd : a.defers = Ds.map markD := by obtain ⟨tv, rfl, _⟩ := hR; rfl
  obtain ⟨V', hv, hres⟩ := results_sound hE.rows hR (hvs rs)
  have hVV : V' = V := hv.told hV
  subst hVV
  have := leave_marks (P := E.P) (fn := fn) (tmps := a.tmps) (Q := fun e w' => e = .returned V' ∧ Below n0 w0 w') Ds w (fun D hD => (hB.marks D hD).1) hB.nodup
    ⟨V', hres _ ⟨own_putsD Ds (fun D hD => (hB.marks D hD).2.1) hB.own.1, rd_putsD Ds (fun D hD => (hB.marks D hD).1) hB.nodup hE.rows hB.own.2 hp⟩, rfl, below_putsD Ds (fun D hD => (hB.marks D hD).2.2) hB.below⟩
  rw [← hd] at this
  rcases he with rfl | rfl <;> exact this
end
theorem wp_lbl {P : Program} {c r : Code} {l : Nat} {Q : Exit → Act → World → Prop} {a : Act} {w : World} (hc : c = .seq (.label l) r) (h : r.wp P Q a w) : c.wp P Q a w := by
  subst hc
  exact wp_seq (wp_label h)
end Go.Proofs.Ytjlijocnmicdpaa
