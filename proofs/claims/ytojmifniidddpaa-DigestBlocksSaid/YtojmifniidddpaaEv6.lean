/- One operation on values whose shape is known. No program of its own. No condition. -/
import Derived.Test.YtojmifniidddpaaEv5
set_option linter.unusedVariables false
set_option linter.unusedSimpArgs false
namespace Go.Proofs.Ytojmifniidddpaa
open Go.RowKit
def Res.cs : Res → List Bool
  | .val _ cs => cs
  | _ => []
section
variable {P : Program} {ρ : List Nat} {f : Operand → Option AV} {g : Operand → Value} {H : List ABlk} {Hr : List Block} {eqs : TypeId → Option (List IntKind)}

theorem opA_sound (he : ∀ t ks, eqs t = some ks → EqT P t ks) (hB : RelB (nums Hr) H Hr) (hfg : ∀ x v, f x = some v → Rel (nums Hr) v (g x)) {o : Oper} {r : Res} (h : opA P eqs H f o.op = some r) (hcs : ∀ c ∈ r.cs, c = true) : Fine P (nums Hr) Hr g o r := by
  obtain ⟨dst, op, ty, pos, aft, gd⟩ := o
  cases op <;> simp only [opA] at h <;> try cases h
  case move x => 
    rw [Option.map_eq_some_iff] at h; obtain ⟨v, h1, h2⟩ := h; subst h2
    exact ⟨_, hfg _ _ h1, fun w _ => by simp [execOp]⟩
  case assign x => 
    rw [Option.map_eq_some_iff] at h; obtain ⟨v, h1, h2⟩ := h; subst h2
    exact ⟨_, hfg _ _ h1, fun w _ => by simp [execOp]⟩
  case pick c a b =>
    split at h
    · rename_i c' a' b' hc ha hb
      rw [Option.map_eq_some_iff] at h; obtain ⟨v, h1, h2⟩ := h; subst h2
      obtain ⟨z, e1, e2⟩ := pick_sound h1 (hfg _ _ hc) (hfg _ _ ha) (hfg _ _ hb)
      exact ⟨_, e2, fun w _ => by simp [execOp, e1, asBool]⟩
    · cases h
  case alloc t =>
    rw [Option.map_eq_some_iff] at h; obtain ⟨cs, h1, h2⟩ := h; subst h2
    obtain ⟨z, z1, z2⟩ := zero_sound (ρ := nums Hr) h1
    exact ⟨_, z1, fun w _ => by simp [execOp, Instr.alloc, z2, newVar, newRow]⟩
  case box t x =>
    rw [Option.map_eq_some_iff] at h; obtain ⟨cs, h1, h2⟩ := h; subst h2
    rw [Option.bind_eq_some_iff] at h1; obtain ⟨v, h3, h4⟩ := h1
    exact ⟨_, (hfg _ _ h3).cells h4, fun w _ => by simp [execOp, Instr.box, newVar, newRow]⟩
  case build t parts =>
    rw [Option.map_eq_some_iff] at h; obtain ⟨v, h1, h2⟩ := h; subst h2
    rw [Option.bind_eq_some_iff] at h1; obtain ⟨ps, h3, h4⟩ := h1
    have hp := evParts_sound hfg h3
    have e : (parts.map fun (i, x) => (i, g x)).toList = parts.toList.map fun (i, x) => (i, g x) := by simp
    obtain ⟨V, e1, e2⟩ := build_sound (Parts := parts.map fun (i, x) => (i, g x)) h4 (by rw [e]; exact hp)
    exact ⟨V, e1, fun w _ => by simp only [execOp, Sem.run_bind, e2, Result.andThen_ok, Sem.run_pure]⟩
  case load t a =>
    rw [Option.map_eq_some_iff] at h; obtain ⟨v, h1, h2⟩ := h; subst h2
    rw [Option.bind_eq_some_iff] at h1; obtain ⟨p, h3, h4⟩ := h1
    unfold loadA at h4
    split at h4
    · rename_i l o
      split at h4
      · rename_i cs ty' hl
        obtain ⟨b, Cs, e1, e2⟩ := hB.get hl
        obtain ⟨V, e3, e4⟩ := load_sound (P := P) h4 e2
        have hp := hfg _ _ h3
        rcases hp' : g a with _ | _ | _ | _ | _ | p' | _ | _ | _ | _ | _ | _ | _ | _ | _ <;> rw [hp'] at hp <;> cases hp
        rename_i b' hb'
        rw [nums_get e1] at hb'; cases hb'
        exact ⟨V, e3, fun w hO => by simp [execOp, hp', Instr.loadAt, Instr.sureAddr, e4 w _ _ (hO.get l e1)]⟩
      · cases h4
    · cases h4
  case store t a x =>
    split at h
    · rename_i p v hp hv
      unfold storeA at h
      split at h
      · rename_i l o
        split at h
        · rename_i cs ty' vs n hl hvs hn
          split at h
          · rename_i hb
            cases h
            simp only [Bool.and_eq_true] at hb
            obtain ⟨⟨h1, h2⟩, h3⟩ := hb
            have h1 := Nat.eq_of_beq_eq_true h1
            have h2 := Nat.le_of_ble_eq_true h2
            obtain ⟨b, Cs, e1, e2⟩ := hB.get hl
            have hp := hfg _ _ hp
            have hx := (hfg _ _ hv).cells hvs
            have hlx := hx.len
            have hlc := e2.len
            rcases hp' : g a with _ | _ | _ | _ | _ | p' | _ | _ | _ | _ | _ | _ | _ | _ | _ <;> rw [hp'] at hp <;> cases hp
            rename_i b' hb'
            rw [nums_get e1] at hb'; cases hb'
            refine ⟨b, _, setsV Cs o (g x).cells.toList, ty', e1, sets_rel hx e2, rfl, fun w hO => ?_⟩
            obtain ⟨w', r1, r2, r3⟩ := store_run (P := P) (g x).cells.toList Cs w b o 0 ty' (allOne_sound h3 hx) (hO.get l e1) (by omega)
            refine ⟨w', ?_, r2, r3⟩
            simp only [Array.length_toList] at hlx
            simp [execOp, hp', Instr.storeAt, Instr.sureAddr, storeVar, run_sizeA hn, hlx, h1, r1]
          · cases h
        · cases h
      · cases h
    · cases h
  case nilCheck x =>
    split at h
    · rename_i l o hx
      cases h
      have hp := hfg _ _ hx
      rcases hp' : g x with _ | _ | _ | _ | _ | p' | _ | _ | _ | _ | _ | _ | _ | _ | _ <;> rw [hp'] at hp <;> cases hp
      rename_i b' hb'
      exact ⟨_, .ptr hb', fun w _ => by simp [execOp, hp']⟩
    · cases h
  case binOp op t x y t2 =>
    split at h
    · rename_i x' y' hx hy
      rw [Option.map_eq_some_iff] at h; obtain ⟨⟨v, cs⟩, h1, h2⟩ := h; subst h2
      obtain ⟨V, e1, e2⟩ := binOp_sound he h1 hcs (hfg _ _ hx) (hfg _ _ hy) x y
      exact ⟨V, e1, fun w _ => by
        show (((do eqGuard op t x y (g x) (g y); binOp op t (g x) (g y) : Sem Value) >>= fun u => pure (Next.value u)) : Sem Next).run P w = _
        rw [Sem.run_bind, e2 w]; rfl⟩
    · cases h
  case unOp op t x =>
    rw [Option.map_eq_some_iff] at h; obtain ⟨v, h1, h2⟩ := h; subst h2
    rw [Option.bind_eq_some_iff] at h1; obtain ⟨u, h3, h4⟩ := h1
    obtain ⟨V, e1, e2⟩ := un_sound (P := P) h4 (hfg _ _ h3)
    exact ⟨V, e1, fun w _ => by simp [execOp, e2]⟩
  case convert s d x =>
    rw [Option.map_eq_some_iff] at h; obtain ⟨v, h1, h2⟩ := h; subst h2
    rw [Option.bind_eq_some_iff] at h1; obtain ⟨u, h3, h4⟩ := h1
    obtain ⟨V, e1, e2⟩ := conv_sound (P := P) h4 (hfg _ _ h3)
    exact ⟨V, e1, fun w _ => by simp [execOp, e2]⟩
  case makeFunc fn first cap =>
    split at h
    · rename_i hl
      rw [Option.map_eq_some_iff] at h; obtain ⟨l, h1, h2⟩ := h; subst h2
      have := evs_sound hfg h1
      have e : (cap.map g) = (cap.toList.map g).toArray := by rw [← List.map_toArray, Array.toArray_toList]
      have e0 : first = #[] := by
        have : first.size = 0 := by simpa using hl
        exact Array.eq_empty_of_size_eq_zero this
      exact ⟨_, .func this, fun w _ => by simp [execOp, Instr.makeFunc, e0, e]⟩
    · cases h
  case makeSlice t n c =>
    split at h
    · rename_i n' c' hn hc
      obtain ⟨cs, e, rfl, Cs, h1, h2⟩ := makeS_sound (ρ := nums Hr) (k := .i64) (k' := .i64) h
      rw [Option.bind_eq_some_iff] at hn hc
      obtain ⟨u, hu1, hu2⟩ := hn
      obtain ⟨u', hu3, hu4⟩ := hc
      obtain ⟨k1, e1⟩ := litNat_sound hu2 (hfg _ _ hu1)
      obtain ⟨k2, e2⟩ := litNat_sound hu4 (hfg _ _ hu3)
      obtain ⟨cs', e', he', Cs', h3, h4⟩ := makeS_sound (ρ := nums Hr) (k := k1) (k' := k2) h
      cases he'
      exact ⟨Cs', h3, fun w _ => by simp [execOp, e1, e2, h4]⟩
    · cases h
  case slice t x lo hi mx =>
    split at h
    · rename_i x' hx
      rw [Option.map_eq_some_iff] at h; obtain ⟨v, h1, h2⟩ := h; subst h2
      obtain ⟨V, e1, e2⟩ := slice_sound hfg h1 (hfg _ _ hx)
      exact ⟨V, e1, fun w _ => by simp only [execOp, Option.map_none, Sem.run_bind, e2, Result.andThen_ok, Sem.run_pure]⟩
    · cases h
  case fieldAddr t x i =>
    rw [Option.map_eq_some_iff] at h; obtain ⟨v, h1, h2⟩ := h; subst h2
    rw [Option.bind_eq_some_iff] at h1; obtain ⟨u, h3, h4⟩ := h1
    obtain ⟨V, e1, e2⟩ := fieldAddr_sound (P := P) h4 (hfg _ _ h3)
    exact ⟨V, e1, fun w _ => by simp [execOp, e2]⟩
  case field t x i =>
    rw [Option.map_eq_some_iff] at h; obtain ⟨v, h1, h2⟩ := h; subst h2
    rw [Option.bind_eq_some_iff] at h1; obtain ⟨u, h3, h4⟩ := h1
    obtain ⟨V, e1, e2⟩ := field_sound (P := P) h4 (hfg _ _ h3)
    exact ⟨V, e1, fun w _ => by simp [execOp, e2]⟩
  case indexAddr t x i =>
    split at h
    · rename_i x' i' hx hi
      rw [Option.map_eq_some_iff] at h; obtain ⟨v, h1, h2⟩ := h; subst h2
      rw [Option.bind_eq_some_iff] at hi; obtain ⟨u, h3, h4⟩ := hi
      obtain ⟨k, ek⟩ := litNat_sound h4 (hfg _ _ h3)
      obtain ⟨V, e1, e2⟩ := indexAddr_sound (P := P) (k := k) h1 (hfg _ _ hx)
      exact ⟨V, e1, fun w _ => by simp [execOp, ek, e2]⟩
    · cases h
  case index t x i =>
    split at h
    · rename_i x' i' hx hi
      rw [Option.map_eq_some_iff] at h; obtain ⟨v, h1, h2⟩ := h; subst h2
      rw [Option.bind_eq_some_iff] at hi; obtain ⟨u, h3, h4⟩ := hi
      obtain ⟨k, ek⟩ := litNat_sound h4 (hfg _ _ h3)
      obtain ⟨V, e1, e2⟩ := index_sound (P := P) (k := k) h1 (hfg _ _ hx)
      exact ⟨V, e1, fun w _ => by simp [execOp, ek, e2]⟩
    · cases h
  case extract x i =>
    split at h
    · rename_i vs hx
      rw [Option.map_eq_some_iff] at h; obtain ⟨v, h1, h2⟩ := h; subst h2
      have hp := hfg _ _ hx
      rcases hp' : g x with _ | _ | _ | _ | _ | p' | _ | _ | _ | _ | _ | _ | _ | _ | _ <;> rw [hp'] at hp <;> cases hp
      rename_i vs' hvs
      obtain ⟨V, e1, e2⟩ := hvs.get h1
      exact ⟨V, e2, fun w _ => by simp [execOp, hp', Instr.extract, e1]⟩
    · cases h
  case call c =>
    obtain ⟨ce, args, ts⟩ := c
    simp only [builtinA] at h
    split at h
    · split at h
      · rename_i x t hx ht
        rw [Option.map_eq_some_iff] at h; obtain ⟨v, h1, h2⟩ := h; subst h2
        rw [Option.bind_eq_some_iff] at h1; obtain ⟨u, h3, h4⟩ := h1
        obtain ⟨V, e1, e2⟩ := len_sound (P := P) (ty := ty) h4 (hfg _ _ h3)
        have ea : args = #[x] := by rw [← Array.toArray_toList (xs := args), hx]
        have et : ts = #[t] := by rw [← Array.toArray_toList (xs := ts), ht]
        exact ⟨V, e1, fun w _ => by simp [execOp, resolve, invoke, builtin, ea, et, e2]⟩
      · cases h
    · cases h
end
end Go.Proofs.Ytojmifniidddpaa
