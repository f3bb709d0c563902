/- One operation on values whose shape is known. No program of its own. No condition. -/
import Derived.Test.YtjbleblllmbcbaaEyR
import Derived.Test.YtjbleblllmbcbaaEyM
set_option linter.unusedVariables false
set_option linter.unusedSimpArgs false
namespace Go.Proofs.Ytjbleblllmbcbaa
open Go.RowKit
variable {R : Rws}
section
variable {P : Program} {ρ : Nums} {f : Operand → Option AV} {g : Operand → Value} {H : Mem} {Hr : List RBlk} {eqs : TypeId → Option (List IntKind)}

theorem opA_sound (hRw : RwOK R) (he : ∀ t ks, eqs t = some ks → EqT P t ks) (hB : RelB R ρ H Hr) (hρ : ∀ (l : Nat) (p : RBlk), Hr[l]? = some p → ρ[l]? = some p.num) (hfg : ∀ x v, f x = some v → Rel R ρ v (g x)) {o : Oper} {r : Res} (h : opA P R eqs H f o.op = some r) (hcs : ∀ c ∈ r.cs, c = true) : Fine P R ρ H Hr g o r := by
  obtain ⟨dst, op, ty, pos, aft, gd⟩ := o
  cases op <;> simp only [opA] at h <;> try cases h
  case move x => 
    rw [Option.map_eq_some_iff] at h; obtain ⟨v, h1, h2⟩ := h; subst h2
    exact ⟨_, hfg _ _ h1, fun w _ => by simp [execOp]⟩
  case assign x => 
    rw [Option.map_eq_some_iff] at h; obtain ⟨v, h1, h2⟩ := h; subst h2
    exact ⟨_, hfg _ _ h1, fun w _ => by simp [execOp]⟩
  case pick c a b =>
    split at h
    · rename_i c' a' b' hc ha hb
      rw [Option.map_eq_some_iff] at h; obtain ⟨v, h1, h2⟩ := h; subst h2
      obtain ⟨z, e1, e2⟩ := pick_sound h1 (hfg _ _ hc) (hfg _ _ ha) (hfg _ _ hb)
      exact ⟨_, e2, fun w _ => by simp [execOp, e1, asBool]⟩
    · cases h
  case alloc t =>
    rw [Option.map_eq_some_iff] at h; obtain ⟨cs, h1, h2⟩ := h; subst h2
    obtain ⟨z, z1, z2⟩ := zero_sound (R := R) (ρ := ρ) h1
    exact ⟨_, z1, fun w _ => by simp [execOp, Instr.alloc, z2, newVar, newRow]⟩
  case box t x =>
    rw [Option.map_eq_some_iff] at h; obtain ⟨cs, h1, h2⟩ := h; subst h2
    rw [Option.bind_eq_some_iff] at h1; obtain ⟨v, h3, h4⟩ := h1
    exact ⟨_, (hfg _ _ h3).cells h4, fun w _ => by simp [execOp, Instr.box, newVar, newRow]⟩
  case build t parts =>
    rw [Option.map_eq_some_iff] at h; obtain ⟨v, h1, h2⟩ := h; subst h2
    rw [Option.bind_eq_some_iff] at h1; obtain ⟨ps, h3, h4⟩ := h1
    have hp := evParts_sound hfg h3
    have e : (parts.map fun (i, x) => (i, g x)).toList = parts.toList.map fun (i, x) => (i, g x) := by simp
    obtain ⟨V, e1, e2⟩ := build_sound (Parts := parts.map fun (i, x) => (i, g x)) h4 (by rw [e]; exact hp)
    exact ⟨V, e1, fun w _ => by simp only [execOp, Sem.run_bind, e2, Result.andThen_ok, Sem.run_pure]⟩
  case load t a =>
    split at h
    · rename_i l i o ha
      split at h
      · rename_i n s F e own hl
        rw [Option.map_eq_some_iff] at h; obtain ⟨v, h1, h2⟩ := h; subst h2
        obtain ⟨V, e1, e2⟩ := gptrLoad_sound (P := P) hB hρ hl h1 (of_decide_eq_true (hcs _ (List.mem_singleton.2 rfl))) (hfg _ _ ha)
        exact ⟨V, e1, fun w hO => by simp [execOp, e2 w hO.1]⟩
      · cases h
    rename_i hng
    rw [Option.map_eq_some_iff] at h; obtain ⟨v, h1, h2⟩ := h; subst h2
    rw [Option.bind_eq_some_iff] at h1; obtain ⟨p, h3, h4⟩ := h1
    unfold loadA at h4
    split at h4
    · rename_i l o
      split at h4
      · rename_i cs ty' hl
        obtain ⟨b, s0, Cs, e1, e2⟩ := hB.get hl
        obtain ⟨V, e3, e4⟩ := load_sound (P := P) h4 e2
        have hp := hfg _ _ h3
        rcases hp' : g a with _ | _ | _ | _ | _ | p' | _ | _ | _ | _ | _ | _ | _ | _ | _ <;> rw [hp'] at hp <;> cases hp
        rename_i b' hb'
        rw [hρ _ _ e1] at hb'; cases hb'
        exact ⟨V, e3, fun w hO => by
          have := e4 w _ _ (show Blk w b Cs.toArray ty' from (hO.1 l _ _ hl e1).2 rfl)
          simp [execOp, hp', Instr.loadAt, Instr.sureAddr, RBlk.num, this]⟩
      · cases h4
    · rename_i j i o
      split at h4
      · rename_i r hr
        have hp := hfg _ _ h3
        generalize hga : g a = pv at hp
        cases hp with | rptr hj ha hi =>
        rw [hr] at hj; cases hj
        obtain ⟨m, rfl⟩ := Int.eq_ofNat_of_zero_le hi.1
        have hm : m < r.n := by have := hi.2; omega
        have hv := hRw.vals j r hr m hm
        obtain ⟨V, e3, e4⟩ := load_row (P := P) h4 (RelL.of_vals (ρ := ρ) hv)
        refine ⟨V, e3, fun w hO => ?_⟩
        obtain ⟨_, _, hcell⟩ := hO.2 j r hr _ _ ha (by omega)
        have := e4 w _ _ (hcell m hm)
        simp only [Int.ofNat_eq_natCast, Int.toNat_natCast] at *
        simp [execOp, hga, Instr.loadAt, Instr.sureAddr, this]
      · cases h4
    · cases h4
  case store t a x =>
    split at h
    · rename_i p v hp hv
      by_cases hgp : ∃ l i o, p = .gptr l i o
      · obtain ⟨l, i, o, rfl⟩ := hgp
        obtain ⟨F, cs, rfl, b, n, s, F0, cur, cur', t', q1, q2, q3, q4, q5⟩ := gptrStore_sound (P := P) hB hρ h hcs (hfg _ _ hp) (hfg _ _ hv)
        exact ⟨b, n, s, F0, cur, cur', t', q1, q2, q3, q4, fun w hO => by
          obtain ⟨w', r1, r2, r3⟩ := q5 w hO.1
          exact ⟨w', by simp [execOp, r1], r2, r3⟩⟩
      unfold storeA at h
      split at h
      · rename_i l o
        split at h
        · rename_i cs ty' vs n hl hvs hn
          split at h
          · rename_i hb
            cases h
            simp only [Bool.and_eq_true] at hb
            obtain ⟨⟨h1, h2⟩, h3⟩ := hb
            have h1 := Nat.eq_of_beq_eq_true h1
            have h2 := Nat.le_of_ble_eq_true h2
            obtain ⟨b, s0, Cs, e1, e2⟩ := hB.get hl
            have hp := hfg _ _ hp
            have hx := (hfg _ _ hv).cells hvs
            have hlx := hx.len
            have hlc := e2.len
            rcases hp' : g a with _ | _ | _ | _ | _ | p' | _ | _ | _ | _ | _ | _ | _ | _ | _ <;> rw [hp'] at hp <;> cases hp
            rename_i b' hb'
            rw [hρ _ _ e1] at hb'; cases hb'
            refine ⟨b, s0, _, setsV Cs o (g x).cells.toList, ty', _, hl, e1, sets_rel hx e2, by simp [sets_len], rfl, fun w hO => ?_⟩
            obtain ⟨w', r1, r2, r3⟩ := store_run (P := P) (g x).cells.toList Cs w b o 0 ty' (allOne_sound h3 hx) (show Blk w b Cs.toArray ty' from (hO.1 l _ _ hl e1).2 rfl) (by omega)
            refine ⟨w', ?_, r2, r3⟩
            simp only [Array.length_toList] at hlx
            simp [execOp, hp', Instr.storeAt, Instr.sureAddr, storeVar, run_sizeA hn, hlx, h1, RBlk.num, r1]
          · cases h
        · cases h
      · exact absurd ⟨_, _, _, rfl⟩ hgp
      · cases h
    · cases h
  case nilCheck x =>
    split at h
    · rename_i l o hx
      cases h
      have hp := hfg _ _ hx
      rcases hp' : g x with _ | _ | _ | _ | _ | p' | _ | _ | _ | _ | _ | _ | _ | _ | _ <;> rw [hp'] at hp <;> cases hp
      rename_i b' hb'
      exact ⟨_, .ptr hb', fun w _ => by simp [execOp, hp']⟩
    · rename_i j i o hx
      cases h
      have hp := hfg _ _ hx
      generalize hga : g x = pv at hp
      cases hp with | rptr hj ha hi =>
      exact ⟨_, .rptr hj ha hi, fun w _ => by simp [execOp, hga]⟩
    · rename_i j i o hx
      cases h
      have hp := hfg _ _ hx
      generalize hga : g x = pv at hp
      cases hp with | gptr hj =>
      exact ⟨_, .gptr hj, fun w _ => by simp [execOp, hga]⟩
    · cases h
  case binOp op t x y t2 =>
    split at h
    · rename_i x' y' hx hy
      rw [Option.map_eq_some_iff] at h; obtain ⟨⟨v, cs⟩, h1, h2⟩ := h; subst h2
      obtain ⟨V, e1, e2⟩ := binOp_sound he h1 hcs (hfg _ _ hx) (hfg _ _ hy) x y
      exact ⟨V, e1, fun w _ => by
        show (((do eqGuard op t x y (g x) (g y); binOp op t (g x) (g y) : Sem Value) >>= fun u => pure (Next.value u)) : Sem Next).run P w = _
        rw [Sem.run_bind, e2 w]; rfl⟩
    · cases h
  case unOp op t x =>
    rw [Option.map_eq_some_iff] at h; obtain ⟨v, h1, h2⟩ := h; subst h2
    rw [Option.bind_eq_some_iff] at h1; obtain ⟨u, h3, h4⟩ := h1
    obtain ⟨V, e1, e2⟩ := un_sound (P := P) h4 (hfg _ _ h3)
    exact ⟨V, e1, fun w _ => by simp [execOp, e2]⟩
  case convert s d x =>
    split at h
    · rename_i v h1
      cases h
      rw [Option.bind_eq_some_iff] at h1; obtain ⟨u, h3, h4⟩ := h1
      obtain ⟨V, e1, e2⟩ := conv_sound (P := P) h4 (hfg _ _ h3)
      exact ⟨V, e1, fun w _ => by simp [execOp, e2]⟩
    · rw [Option.map_eq_some_iff] at h; obtain ⟨v, h1, h2⟩ := h; subst h2
      rw [Option.bind_eq_some_iff] at h1; obtain ⟨u, h3, h4⟩ := h1
      obtain ⟨V, e1, e2⟩ := convStr_sound (P := P) hB hρ h4 (hfg _ _ h3)
      exact ⟨V, e1, fun w hO => by simp [execOp, e2 w hO.1]⟩
  case buildSlice t n parts =>
    rw [Option.bind_eq_some_iff] at h; obtain ⟨ps, h3, h4⟩ := h
    have hp := evParts_sound hfg h3
    have e : (parts.map fun (i, x) => (i, g x)).toList = parts.toList.map fun (i, x) => (i, g x) := by simp
    obtain ⟨cs, e0, rfl, Cs, e1, e2⟩ := buildSlice_sound (Ps := parts.map fun (i, x) => (i, g x)) h4 (by rw [e]; exact hp)
    exact ⟨Cs, e1, fun w _ => by simp only [execOp, Sem.run_bind, e2, Result.andThen_ok, Sem.run_pure]⟩
  case makeFunc fn first cap =>
    split at h
    · rename_i hl
      rw [Option.map_eq_some_iff] at h; obtain ⟨l, h1, h2⟩ := h; subst h2
      have := evs_sound hfg h1
      have e : (cap.map g) = (cap.toList.map g).toArray := by rw [← List.map_toArray, Array.toArray_toList]
      have e0 : first = #[] := by
        have : first.size = 0 := by simpa using hl
        exact Array.eq_empty_of_size_eq_zero this
      exact ⟨_, .func this, fun w _ => by simp [execOp, Instr.makeFunc, e0, e]⟩
    · cases h
  case makeSlice t n c =>
    split at h
    · rename_i n' c' hn hc
      obtain ⟨cs, e, rfl, Cs, h1, h2⟩ := makeS_sound (R := R) (ρ := ρ) (k := .i64) (k' := .i64) h
      rw [Option.bind_eq_some_iff] at hn hc
      obtain ⟨u, hu1, hu2⟩ := hn
      obtain ⟨u', hu3, hu4⟩ := hc
      obtain ⟨k1, e1⟩ := litNat_sound hu2 (hfg _ _ hu1)
      obtain ⟨k2, e2⟩ := litNat_sound hu4 (hfg _ _ hu3)
      obtain ⟨cs', e', he', Cs', h3, h4⟩ := makeS_sound (R := R) (ρ := ρ) (k := k1) (k' := k2) h
      cases he'
      exact ⟨Cs', h3, fun w _ => by simp [execOp, e1, e2, h4]⟩
    · cases h
  case slice t x lo hi mx =>
    split at h
    · rename_i j n c hx
      split at h
      · rename_i lo' r e hr hu
        split at h
        · rename_i a s hlo hs
          split at h
          · rename_i j' hsub
            split at h
            · rename_i r' hr'
              split at h
              · rename_i hsr
                cases h
                have hb := of_decide_eq_true (hcs _ (List.mem_singleton.2 rfl))
                rw [Option.bind_eq_some_iff] at hlo
                obtain ⟨u, h3, h4⟩ := hlo
                obtain ⟨k, ek⟩ := litNat_sound h4 (hfg _ _ h3)
                obtain ⟨V, e1, e2⟩ := sliceRow_sound (P := P) (k := k) hRw hu hs hr hsr hsub hr' hb (hfg _ _ hx)
                exact ⟨V, e1, fun w _ => by simp only [execOp, Option.map_none, Option.map_some, ek, Sem.run_bind, e2, Result.andThen_ok, Sem.run_pure]⟩
              · cases h
            · cases h
          · cases h
        · cases h
      · cases h
    · rename_i l off n hx
      split at h
      · rename_i e hu
        split at h
        · rename_i N s F e' own hl
          split at h
          · rename_i s' hs
            split at h
            · rename_i hss
              split at h
              · rename_i a b ha hb
                cases h
                subst hss
                obtain ⟨p, q1, q2⟩ := hB.at hl
                have hq := hρ _ _ q1
                have hps : s' = p.num.s := by cases q2; rfl
                have h0 := of_decide_eq_true (hcs _ (List.mem_cons_self ..))
                have hbd : ∀ (d : Int) (x : Option Operand) (k : Int), intO f d x = some k → (x = none ∧ k = d) ∨ ∃ y kk, x = some y ∧ g y = .int kk k := fun d x k hk => by
                  unfold intO at hk
                  split at hk
                  · cases hk; exact .inl ⟨rfl, rfl⟩
                  · rename_i y
                    split at hk
                    · rename_i kk l0 k0 hy
                      cases hk
                      have := hfg _ _ hy
                      generalize hgy : g y = yv at this
                      cases this
                      exact .inr ⟨y, kk, rfl, hgy⟩
                    · cases hk
                rcases hbd 0 lo a ha with ⟨rfl, rfl⟩ | ⟨y, ka, rfl, hya⟩
                · rcases hbd n hi b hb with ⟨rfl, rfl⟩ | ⟨z, kb, rfl, hzb⟩
                  · obtain ⟨V, e1, e2⟩ := gslSlice_sound (P := P) (ka := .i64) (kb := .i64) (lo := none) (hi := none) hu hs hq hps h0 (.inl ⟨rfl, rfl⟩) (.inl ⟨rfl, rfl⟩) (hfg _ _ hx)
                    exact ⟨V, e1, fun w _ => by simp only [execOp, Option.map_none, Sem.run_bind, e2, Result.andThen_ok, Sem.run_pure]⟩
                  · obtain ⟨V, e1, e2⟩ := gslSlice_sound (P := P) (ka := .i64) (kb := kb) (lo := none) (hi := some (.int kb b)) hu hs hq hps h0 (.inl ⟨rfl, rfl⟩) (.inr rfl) (hfg _ _ hx)
                    exact ⟨V, e1, fun w _ => by simp only [execOp, Option.map_none, Option.map_some, hzb, Sem.run_bind, e2, Result.andThen_ok, Sem.run_pure]⟩
                · have ha' : a < n := of_decide_eq_true (hcs _ (List.mem_cons_of_mem _ (List.mem_singleton.2 rfl)))
                  rcases hbd n hi b hb with ⟨rfl, rfl⟩ | ⟨z, kb, rfl, hzb⟩
                  · obtain ⟨V, e1, e2⟩ := gslSlice_sound (P := P) (ka := ka) (kb := .i64) (lo := some (.int ka a)) (hi := none) hu hs hq hps h0 (.inr ⟨rfl, ha'⟩) (.inl ⟨rfl, rfl⟩) (hfg _ _ hx)
                    exact ⟨V, e1, fun w _ => by simp only [execOp, Option.map_none, Option.map_some, hya, Sem.run_bind, e2, Result.andThen_ok, Sem.run_pure]⟩
                  · obtain ⟨V, e1, e2⟩ := gslSlice_sound (P := P) (ka := ka) (kb := kb) (lo := some (.int ka a)) (hi := some (.int kb b)) hu hs hq hps h0 (.inr ⟨rfl, ha'⟩) (.inr rfl) (hfg _ _ hx)
                    exact ⟨V, e1, fun w _ => by simp only [execOp, Option.map_none, Option.map_some, hya, hzb, Sem.run_bind, e2, Result.andThen_ok, Sem.run_pure]⟩
              · cases h
            · cases h
          · cases h
        · cases h
      · cases h
    · rename_i x' hnr hng hx
      rw [Option.map_eq_some_iff] at h; obtain ⟨v, h1, h2⟩ := h; subst h2
      obtain ⟨V, e1, e2⟩ := slice_sound hfg h1 (hfg _ _ hx)
      exact ⟨V, e1, fun w _ => by simp only [execOp, Option.map_none, Sem.run_bind, e2, Result.andThen_ok, Sem.run_pure]⟩
    · cases h
  case fieldAddr t x i =>
    rw [Option.map_eq_some_iff] at h; obtain ⟨v, h1, h2⟩ := h; subst h2
    rw [Option.bind_eq_some_iff] at h1; obtain ⟨u, h3, h4⟩ := h1
    obtain ⟨V, e1, e2⟩ := fieldAddr_sound (P := P) h4 (hfg _ _ h3)
    exact ⟨V, e1, fun w _ => by simp [execOp, e2]⟩
  case field t x i =>
    rw [Option.map_eq_some_iff] at h; obtain ⟨v, h1, h2⟩ := h; subst h2
    rw [Option.bind_eq_some_iff] at h1; obtain ⟨u, h3, h4⟩ := h1
    obtain ⟨V, e1, e2⟩ := field_sound (P := P) h4 (hfg _ _ h3)
    exact ⟨V, e1, fun w _ => by simp [execOp, e2]⟩
  case indexAddr t x i =>
    split at h
    · rename_i j n c hx
      split at h
      · rename_i k0 l0 k e r hi hu hr
        split at h
        · rename_i s hs
          split at h
          · rename_i hsr
            cases h
            have hb := of_decide_eq_true (hcs _ (List.mem_singleton.2 rfl))
            have hi' := hfg _ _ hi
            generalize hgi : g i = iv at hi'
            cases hi'
            obtain ⟨V, e1, e2⟩ := indexRow_sound (P := P) (k := k0) hRw hu hs hr hsr hb (hfg _ _ hx)
            exact ⟨V, e1, fun w _ => by simp [execOp, hgi, e2]⟩
          · cases h
        · cases h
      · cases h
    · rename_i l off n hx
      split at h
      · rename_i k0 l0 k e N s F e' own hi hu hl
        split at h
        · rename_i s' hs
          split at h
          · rename_i hss
            cases h
            subst hss
            obtain ⟨p, q1, q2⟩ := hB.at hl
            have hb := of_decide_eq_true (hcs _ (List.mem_singleton.2 rfl))
            have hi' := hfg _ _ hi
            generalize hgi : g i = iv at hi'
            cases hi'
            obtain ⟨V, e1, e2⟩ := gslIndex_sound (P := P) (k := k0) hu hs (hρ _ _ q1) (by cases q2; rfl) hb (hfg _ _ hx)
            exact ⟨V, e1, fun w _ => by simp [execOp, hgi, e2]⟩
          · cases h
        · cases h
      · cases h
    · rename_i x' hnr hng hx
      split at h
      · rename_i i' hi
        rw [Option.map_eq_some_iff] at h; obtain ⟨v, h1, h2⟩ := h; subst h2
        rw [Option.bind_eq_some_iff] at hi; obtain ⟨u, h3, h4⟩ := hi
        obtain ⟨k, ek⟩ := litNat_sound h4 (hfg _ _ h3)
        obtain ⟨V, e1, e2⟩ := indexAddr_sound (P := P) (k := k) h1 (hfg _ _ hx)
        exact ⟨V, e1, fun w _ => by simp [execOp, ek, e2]⟩
      · cases h
    · cases h
  case index t x i =>
    split at h
    · rename_i x' i' hx hi
      rw [Option.map_eq_some_iff] at h; obtain ⟨v, h1, h2⟩ := h; subst h2
      rw [Option.bind_eq_some_iff] at hi; obtain ⟨u, h3, h4⟩ := hi
      obtain ⟨k, ek⟩ := litNat_sound h4 (hfg _ _ h3)
      obtain ⟨V, e1, e2⟩ := index_sound (P := P) (k := k) h1 (hfg _ _ hx)
      exact ⟨V, e1, fun w _ => by simp [execOp, ek, e2]⟩
    · cases h
  case extract x i =>
    split at h
    · rename_i vs hx
      rw [Option.map_eq_some_iff] at h; obtain ⟨v, h1, h2⟩ := h; subst h2
      have hp := hfg _ _ hx
      rcases hp' : g x with _ | _ | _ | _ | _ | p' | _ | _ | _ | _ | _ | _ | _ | _ | _ <;> rw [hp'] at hp <;> cases hp
      rename_i vs' hvs
      obtain ⟨V, e1, e2⟩ := hvs.get h1
      exact ⟨V, e2, fun w _ => by simp [execOp, hp', Instr.extract, e1]⟩
    · cases h
  case makeMap t hint =>
    cases hint with
    | none =>
      obtain ⟨m, rfl, h1, h2⟩ := makeM_sound he h
      exact ⟨_, _, h1, fun w _ => by simp [execOp, h2]⟩
    | some x => cases h
  case lookup t x k ok =>
    split at h
    · rename_i x' k' hx hk
      rw [Option.map_eq_some_iff] at h; obtain ⟨v, h1, h2⟩ := h; subst h2
      obtain ⟨V, e1, e2⟩ := lookup_sound he hB hρ h1 (hfg _ _ hx) (hfg _ _ hk)
      exact ⟨V, e1, fun w hO => by simp [execOp, e2 w hO.1]⟩
    · cases h
  case mapUpdate t x k v =>
    split at h
    · rename_i x' k' v' hx hk hv
      obtain ⟨l, m, b, s, es, clock, es', clock', m0, rfl, q1, q2, q3, q4⟩ := update_sound he hB hρ h (hfg _ _ hx) (hfg _ _ hk) (hfg _ _ hv)
      exact ⟨b, s, es, clock, es', clock', m0, q1, q2, q3, fun w hO => by simp [execOp, q4 w hO.1]⟩
    · cases h
  case call c =>
    obtain ⟨ce, args, ts⟩ := c
    simp only [builtinA] at h
    split at h
    · split at h
      · rename_i x t hx ht
        have ea : args = #[x] := by rw [← Array.toArray_toList (xs := args), hx]
        have et : ts = #[t] := by rw [← Array.toArray_toList (xs := ts), ht]
        split at h
        · rename_i v h1
          cases h
          rw [Option.bind_eq_some_iff] at h1; obtain ⟨u, h3, h4⟩ := h1
          obtain ⟨V, e1, e2⟩ := len_sound (P := P) (ty := ty) h4 (hfg _ _ h3)
          exact ⟨V, e1, fun w _ => by simp [execOp, resolve, invoke, builtin, ea, et, e2]⟩
        · rw [Option.map_eq_some_iff] at h; obtain ⟨v, h1, h2⟩ := h; subst h2
          rw [Option.bind_eq_some_iff] at h1; obtain ⟨u, h3, h4⟩ := h1
          obtain ⟨V, e1, e2⟩ := lenM_sound (P := P) (ty := ty) hB hρ h4 (hfg _ _ h3)
          exact ⟨V, e1, fun w hO => by simp [execOp, resolve, invoke, builtin, ea, et, e2 w hO.1]⟩
      · cases h
    · split at h
      · rename_i x y t t' hx ht
        split at h
        · rename_i htt
          subst htt
          split at h
          · rename_i x' y' h3 h4
            have ea : args = #[x, y] := by rw [← Array.toArray_toList (xs := args), hx]
            have et : ts = #[t', t'] := by rw [← Array.toArray_toList (xs := ts), ht]
            rcases appendA_sound (P := P) (ty := ty) hRw hB hρ h hcs (hfg _ _ h3) (hfg _ _ h4) with ⟨l, n, n', s, F, e, cs, rfl, N, F0, b, cur, q1, q2, q3, q4, q5, q6⟩ | ⟨n, s, F, e, cs, rfl, q5, q6⟩
            · exact ⟨N, F0, b, cur, q1, q2, q3, q4, q5, fun w hO => by
                obtain ⟨q, cap, cur', w', r1, r2⟩ := q6 w hO
                exact ⟨q, cap, cur', w', by simp [execOp, resolve, invoke, builtin, ea, et, r1], r2⟩⟩
            · exact ⟨q5, fun w hO => by
                obtain ⟨cap, cur', w', r1, r2⟩ := q6 w hO
                exact ⟨cap, cur', w', by simp [execOp, resolve, invoke, builtin, ea, et, r1], r2⟩⟩
          · cases h
        · cases h
      · cases h
    · split at h
      · rename_i x y hx
        split at h
        · rename_i x' y' h3 h4
          rw [Option.map_eq_some_iff] at h; obtain ⟨v, h1, h2⟩ := h; subst h2
          obtain ⟨V, e1, e2⟩ := min_sound (P := P) h1 (hfg _ _ h3) (hfg _ _ h4)
          have ea : args = #[x, y] := by rw [← Array.toArray_toList (xs := args), hx]
          have e3 := e2 ts ty
          simp only [Bool.false_eq_true, if_false] at e3
          exact ⟨V, e1, fun w _ => by simp [execOp, resolve, invoke, builtin, ea, e3]⟩
        · cases h
      · cases h
    · split at h
      · rename_i x y hx
        split at h
        · rename_i x' y' h3 h4
          rw [Option.map_eq_some_iff] at h; obtain ⟨v, h1, h2⟩ := h; subst h2
          obtain ⟨V, e1, e2⟩ := min_sound (P := P) h1 (hfg _ _ h3) (hfg _ _ h4)
          have ea : args = #[x, y] := by rw [← Array.toArray_toList (xs := args), hx]
          have e3 := e2 ts ty
          simp only [if_true] at e3
          exact ⟨V, e1, fun w _ => by simp [execOp, resolve, invoke, builtin, ea, e3]⟩
        · cases h
      · cases h
    · cases h
end
end Go.Proofs.Ytjbleblllmbcbaa
