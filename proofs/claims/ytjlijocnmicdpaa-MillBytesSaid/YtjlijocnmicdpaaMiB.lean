/- Mixing: the program and the document. No condition. -/
import Derived.Test.YtjlijocnmicdpaaMiA
set_option linter.unusedVariables false
set_option linter.unusedSimpArgs false
set_option maxRecDepth 100000
namespace Go.Proofs.Ytjlijocnmicdpaa
open Go.RowKit

def valsB (v : Nat → BitVec 64) : List Value := [.int .u64 ((v 0).toNat : Int), .int .u64 ((v 1).toNat : Int), .int .u64 ((v 2).toNat : Int), .int .u64 ((v 3).toNat : Int), .int .u64 ((v 4).toNat : Int), .int .u64 ((v 5).toNat : Int), .int .u64 ((v 6).toNat : Int), .int .u64 ((v 7).toNat : Int), .int .u64 ((v 8).toNat : Int), .int .u64 ((v 9).toNat : Int), .int .u64 ((v 10).toNat : Int), .int .u64 ((v 11).toNat : Int), .int .u64 ((v 12).toNat : Int), .int .u64 ((v 13).toNat : Int), .int .u64 ((v 14).toNat : Int), .int .u64 ((v 15).toNat : Int)]
theorem vals_cB (v : Nat → BitVec 64) : AV.vals? (cB v) = some (valsB v) := rfl
def PLl : Nat → Nat × Nat × Nat × Nat
  | 0 => (0, 4, 8, 12)
  | 1 => (1, 5, 9, 13)
  | 2 => (2, 6, 10, 14)
  | 3 => (3, 7, 11, 15)
  | 4 => (0, 5, 10, 15)
  | 5 => (1, 6, 11, 12)
  | 6 => (2, 7, 8, 13)
  | _ => (3, 4, 9, 14)
def plV (k : Nat) : Value := .agg #[.int .i64 ((PLl k).1 : Int), .int .i64 ((PLl k).2.1 : Int), .int .i64 ((PLl k).2.2.1 : Int), .int .i64 ((PLl k).2.2.2 : Int)]
def mixK (k : Nat) (v : Nat → BitVec 64) (x y : BitVec 64) : Nat → BitVec 64 := mixB v (PLl k).1 (PLl k).2.1 (PLl k).2.2.1 (PLl k).2.2.2 x y
def plK : AV → Option Nat
  | .agg [.int .i64 _ a, .int .i64 _ b, .int .i64 _ c, .int .i64 _ d] => bif decide (a = 0 ∧ b = 4 ∧ c = 8 ∧ d = 12) then some 0 else bif decide (a = 1 ∧ b = 5 ∧ c = 9 ∧ d = 13) then some 1 else bif decide (a = 2 ∧ b = 6 ∧ c = 10 ∧ d = 14) then some 2 else bif decide (a = 3 ∧ b = 7 ∧ c = 11 ∧ d = 15) then some 3 else bif decide (a = 0 ∧ b = 5 ∧ c = 10 ∧ d = 15) then some 4 else bif decide (a = 1 ∧ b = 6 ∧ c = 11 ∧ d = 12) then some 5 else bif decide (a = 2 ∧ b = 7 ∧ c = 8 ∧ d = 13) then some 6 else bif decide (a = 3 ∧ b = 4 ∧ c = 9 ∧ d = 14) then some 7 else none
  | _ => none
theorem plK_rel {R : Rws} {ρ : Nums} {v : AV} {V : Value} {k : Nat} (h : plK v = some k) (hr : Rel R ρ v V) : k < 8 ∧ V = plV k := by
  unfold plK at h
  split at h
  · rename_i a b c d
    cases hr with | agg hr =>
    cases hr with | cons h0 hr => cases hr with | cons h1 hr => cases hr with | cons h2 hr => cases hr with | cons h3 hr =>
    cases hr
    cases h0; cases h1; cases h2; cases h3
    repeat' (first
      | (rw [Bool.cond_decide] at h; split at h)
      | (rename_i hd; obtain ⟨rfl, rfl, rfl, rfl⟩ := hd; cases h; exact ⟨by decide, rfl⟩)
      | cases h)
  · cases h
theorem mix_0 (v : Nat → BitVec 64) (x y : BitVec 64) : Is (evCall EA 60 39 [.ptr 0 0, .agg [.int .i64 true 0, .int .i64 true 4, .int .i64 true 8, .int .i64 true 12], .agg [.bv .u64 x, .bv .u64 y]] ⟨[.cells (cB v) 56], [], allW⟩ (updK 56 (.tuple []) (cB (mixK 0 v x y)))) := ev_eq [] ((.tuple [], [AIt.cells (cB (mixK 0 v x y)) 56]) : AV × Mem) (by kernel_rfl) trivial
theorem rmix_0 (v : Nat → BitVec 64) (x y : BitVec 64) : Is (evCall EA 60 30 [.agg (cB v), .agg [.int .i64 true 0, .int .i64 true 4, .int .i64 true 8, .int .i64 true 12], .bv .u64 x, .bv .u64 y] ⟨[], [], allW⟩ (fun u _ => u = .agg (cB (mixK 0 v x y)))) := ev_eq [] (.agg (cB (mixK 0 v x y)) : AV) (by kernel_rfl) trivial
theorem mix_1 (v : Nat → BitVec 64) (x y : BitVec 64) : Is (evCall EA 60 39 [.ptr 0 0, .agg [.int .i64 true 1, .int .i64 true 5, .int .i64 true 9, .int .i64 true 13], .agg [.bv .u64 x, .bv .u64 y]] ⟨[.cells (cB v) 56], [], allW⟩ (updK 56 (.tuple []) (cB (mixK 1 v x y)))) := ev_eq [] ((.tuple [], [AIt.cells (cB (mixK 1 v x y)) 56]) : AV × Mem) (by kernel_rfl) trivial
theorem rmix_1 (v : Nat → BitVec 64) (x y : BitVec 64) : Is (evCall EA 60 30 [.agg (cB v), .agg [.int .i64 true 1, .int .i64 true 5, .int .i64 true 9, .int .i64 true 13], .bv .u64 x, .bv .u64 y] ⟨[], [], allW⟩ (fun u _ => u = .agg (cB (mixK 1 v x y)))) := ev_eq [] (.agg (cB (mixK 1 v x y)) : AV) (by kernel_rfl) trivial
theorem mix_2 (v : Nat → BitVec 64) (x y : BitVec 64) : Is (evCall EA 60 39 [.ptr 0 0, .agg [.int .i64 true 2, .int .i64 true 6, .int .i64 true 10, .int .i64 true 14], .agg [.bv .u64 x, .bv .u64 y]] ⟨[.cells (cB v) 56], [], allW⟩ (updK 56 (.tuple []) (cB (mixK 2 v x y)))) := ev_eq [] ((.tuple [], [AIt.cells (cB (mixK 2 v x y)) 56]) : AV × Mem) (by kernel_rfl) trivial
theorem rmix_2 (v : Nat → BitVec 64) (x y : BitVec 64) : Is (evCall EA 60 30 [.agg (cB v), .agg [.int .i64 true 2, .int .i64 true 6, .int .i64 true 10, .int .i64 true 14], .bv .u64 x, .bv .u64 y] ⟨[], [], allW⟩ (fun u _ => u = .agg (cB (mixK 2 v x y)))) := ev_eq [] (.agg (cB (mixK 2 v x y)) : AV) (by kernel_rfl) trivial
theorem mix_3 (v : Nat → BitVec 64) (x y : BitVec 64) : Is (evCall EA 60 39 [.ptr 0 0, .agg [.int .i64 true 3, .int .i64 true 7, .int .i64 true 11, .int .i64 true 15], .agg [.bv .u64 x, .bv .u64 y]] ⟨[.cells (cB v) 56], [], allW⟩ (updK 56 (.tuple []) (cB (mixK 3 v x y)))) := ev_eq [] ((.tuple [], [AIt.cells (cB (mixK 3 v x y)) 56]) : AV × Mem) (by kernel_rfl) trivial
theorem rmix_3 (v : Nat → BitVec 64) (x y : BitVec 64) : Is (evCall EA 60 30 [.agg (cB v), .agg [.int .i64 true 3, .int .i64 true 7, .int .i64 true 11, .int .i64 true 15], .bv .u64 x, .bv .u64 y] ⟨[], [], allW⟩ (fun u _ => u = .agg (cB (mixK 3 v x y)))) := ev_eq [] (.agg (cB (mixK 3 v x y)) : AV) (by kernel_rfl) trivial
theorem mix_4 (v : Nat → BitVec 64) (x y : BitVec 64) : Is (evCall EA 60 39 [.ptr 0 0, .agg [.int .i64 true 0, .int .i64 true 5, .int .i64 true 10, .int .i64 true 15], .agg [.bv .u64 x, .bv .u64 y]] ⟨[.cells (cB v) 56], [], allW⟩ (updK 56 (.tuple []) (cB (mixK 4 v x y)))) := ev_eq [] ((.tuple [], [AIt.cells (cB (mixK 4 v x y)) 56]) : AV × Mem) (by kernel_rfl) trivial
theorem rmix_4 (v : Nat → BitVec 64) (x y : BitVec 64) : Is (evCall EA 60 30 [.agg (cB v), .agg [.int .i64 true 0, .int .i64 true 5, .int .i64 true 10, .int .i64 true 15], .bv .u64 x, .bv .u64 y] ⟨[], [], allW⟩ (fun u _ => u = .agg (cB (mixK 4 v x y)))) := ev_eq [] (.agg (cB (mixK 4 v x y)) : AV) (by kernel_rfl) trivial
theorem mix_5 (v : Nat → BitVec 64) (x y : BitVec 64) : Is (evCall EA 60 39 [.ptr 0 0, .agg [.int .i64 true 1, .int .i64 true 6, .int .i64 true 11, .int .i64 true 12], .agg [.bv .u64 x, .bv .u64 y]] ⟨[.cells (cB v) 56], [], allW⟩ (updK 56 (.tuple []) (cB (mixK 5 v x y)))) := ev_eq [] ((.tuple [], [AIt.cells (cB (mixK 5 v x y)) 56]) : AV × Mem) (by kernel_rfl) trivial
theorem rmix_5 (v : Nat → BitVec 64) (x y : BitVec 64) : Is (evCall EA 60 30 [.agg (cB v), .agg [.int .i64 true 1, .int .i64 true 6, .int .i64 true 11, .int .i64 true 12], .bv .u64 x, .bv .u64 y] ⟨[], [], allW⟩ (fun u _ => u = .agg (cB (mixK 5 v x y)))) := ev_eq [] (.agg (cB (mixK 5 v x y)) : AV) (by kernel_rfl) trivial
theorem mix_6 (v : Nat → BitVec 64) (x y : BitVec 64) : Is (evCall EA 60 39 [.ptr 0 0, .agg [.int .i64 true 2, .int .i64 true 7, .int .i64 true 8, .int .i64 true 13], .agg [.bv .u64 x, .bv .u64 y]] ⟨[.cells (cB v) 56], [], allW⟩ (updK 56 (.tuple []) (cB (mixK 6 v x y)))) := ev_eq [] ((.tuple [], [AIt.cells (cB (mixK 6 v x y)) 56]) : AV × Mem) (by kernel_rfl) trivial
theorem rmix_6 (v : Nat → BitVec 64) (x y : BitVec 64) : Is (evCall EA 60 30 [.agg (cB v), .agg [.int .i64 true 2, .int .i64 true 7, .int .i64 true 8, .int .i64 true 13], .bv .u64 x, .bv .u64 y] ⟨[], [], allW⟩ (fun u _ => u = .agg (cB (mixK 6 v x y)))) := ev_eq [] (.agg (cB (mixK 6 v x y)) : AV) (by kernel_rfl) trivial
theorem mix_7 (v : Nat → BitVec 64) (x y : BitVec 64) : Is (evCall EA 60 39 [.ptr 0 0, .agg [.int .i64 true 3, .int .i64 true 4, .int .i64 true 9, .int .i64 true 14], .agg [.bv .u64 x, .bv .u64 y]] ⟨[.cells (cB v) 56], [], allW⟩ (updK 56 (.tuple []) (cB (mixK 7 v x y)))) := ev_eq [] ((.tuple [], [AIt.cells (cB (mixK 7 v x y)) 56]) : AV × Mem) (by kernel_rfl) trivial
theorem rmix_7 (v : Nat → BitVec 64) (x y : BitVec 64) : Is (evCall EA 60 30 [.agg (cB v), .agg [.int .i64 true 3, .int .i64 true 4, .int .i64 true 9, .int .i64 true 14], .bv .u64 x, .bv .u64 y] ⟨[], [], allW⟩ (fun u _ => u = .agg (cB (mixK 7 v x y)))) := ev_eq [] (.agg (cB (mixK 7 v x y)) : AV) (by kernel_rfl) trivial
theorem upd_mix {k : Nat} (hk : k < 8) (v : Nat → BitVec 64) (x y : BitVec 64) : Upd1 Try.prog 39 56 (valsB v) [plV k, .agg #[.int .u64 (x.toNat : Int), .int .u64 (y.toNat : Int)]] (.tuple #[]) (valsB (mixK k v x y)) := by
  rcases (by omega : k = 0 ∨ k = 1 ∨ k = 2 ∨ k = 3 ∨ k = 4 ∨ k = 5 ∨ k = 6 ∨ k = 7) with rfl | rfl | rfl | rfl | rfl | rfl | rfl | rfl
  · exact upd_of_ev EA_ok rfl 60 (mix_0 v x y) rfl rfl rfl rfl
  · exact upd_of_ev EA_ok rfl 60 (mix_1 v x y) rfl rfl rfl rfl
  · exact upd_of_ev EA_ok rfl 60 (mix_2 v x y) rfl rfl rfl rfl
  · exact upd_of_ev EA_ok rfl 60 (mix_3 v x y) rfl rfl rfl rfl
  · exact upd_of_ev EA_ok rfl 60 (mix_4 v x y) rfl rfl rfl rfl
  · exact upd_of_ev EA_ok rfl 60 (mix_5 v x y) rfl rfl rfl rfl
  · exact upd_of_ev EA_ok rfl 60 (mix_6 v x y) rfl rfl rfl rfl
  · exact upd_of_ev EA_ok rfl 60 (mix_7 v x y) rfl rfl rfl rfl
theorem rmix_any {k : Nat} (hk : k < 8) (v : Nat → BitVec 64) (x y : BitVec 64) (w : World) : Calls Try.prog 30 #[.agg (valsB v).toArray, plV k, .int .u64 (x.toNat : Int), .int .u64 (y.toNat : Int)] w fun e w' => e = .returned (.agg (valsB (mixK k v x y)).toArray) ∧ Below w.heap.size w w' := by
  have hv : RelL noRows [] (cB v) (valsB v) := RelL.of_vals rfl
  rcases (by omega : k = 0 ∨ k = 1 ∨ k = 2 ∨ k = 3 ∨ k = 4 ∨ k = 5 ∨ k = 6 ∨ k = 7) with rfl | rfl | rfl | rfl | rfl | rfl | rfl | rfl
  · exact ev_callsI EA_ok 60 (rmix_0 v x y) rfl (.cons (.agg hv) (.cons (Rel.of_plain rfl) (.cons (.bv rfl) (.cons (.bv rfl) .nil)))) rfl w
  · exact ev_callsI EA_ok 60 (rmix_1 v x y) rfl (.cons (.agg hv) (.cons (Rel.of_plain rfl) (.cons (.bv rfl) (.cons (.bv rfl) .nil)))) rfl w
  · exact ev_callsI EA_ok 60 (rmix_2 v x y) rfl (.cons (.agg hv) (.cons (Rel.of_plain rfl) (.cons (.bv rfl) (.cons (.bv rfl) .nil)))) rfl w
  · exact ev_callsI EA_ok 60 (rmix_3 v x y) rfl (.cons (.agg hv) (.cons (Rel.of_plain rfl) (.cons (.bv rfl) (.cons (.bv rfl) .nil)))) rfl w
  · exact ev_callsI EA_ok 60 (rmix_4 v x y) rfl (.cons (.agg hv) (.cons (Rel.of_plain rfl) (.cons (.bv rfl) (.cons (.bv rfl) .nil)))) rfl w
  · exact ev_callsI EA_ok 60 (rmix_5 v x y) rfl (.cons (.agg hv) (.cons (Rel.of_plain rfl) (.cons (.bv rfl) (.cons (.bv rfl) .nil)))) rfl w
  · exact ev_callsI EA_ok 60 (rmix_6 v x y) rfl (.cons (.agg hv) (.cons (Rel.of_plain rfl) (.cons (.bv rfl) (.cons (.bv rfl) .nil)))) rfl w
  · exact ev_callsI EA_ok 60 (rmix_7 v x y) rfl (.cons (.agg hv) (.cons (Rel.of_plain rfl) (.cons (.bv rfl) (.cons (.bv rfl) .nil)))) rfl w
/-- Mixing, as a contract. -/
def mixF : CtmF
  | [.ptr l 0, p, .agg [x, y]], H, wr => match H[l]?, plK p, asB64 x, asB64 y with
    | some (.cells cs t), some k, some x, some y => bif six cs && Nat.beq t 56 && wr l then some (.tuple [], (dropR l H).set l (.cells (cB (mixK k (vOf cs) x y)) 56), []) else none
    | _, _, _, _ => none
  | _, _, _ => none
theorem six_vals {cs : List AV} (h : six cs = true) : AV.vals? cs = some (valsB (vOf cs)) := by
  unfold six at h
  rw [Bool.and_eq_true] at h
  rw [cB_all (Nat.eq_of_beq_eq_true h.1) h.2]; rfl
theorem mixF_ok {R : Rws} : GoodM Try.prog R 39 mixF := by
  refine ⟨enters_of Try.func39 (by kernel_rfl) rfl, fun args H wr v H' cs hv hcs Hr w Args ha hB hA hO => ?_⟩
  unfold mixF at hv
  split at hv
  · rename_i H0 wr0 l p x y
    split at hv
    · rename_i cs t k x' y' hl hp hx hy
      cases hb : (six cs && Nat.beq t 56 && wr l) <;> simp only [hb, cond_true, cond_false] at hv
      · cases hv
      · cases hv
        simp only [Bool.and_eq_true] at hb
        obtain ⟨⟨h6, ht⟩, hw⟩ := hb
        obtain rfl := Nat.eq_of_beq_eq_true ht
        cases ha with | cons a0 ha => cases ha with | cons a1 ha => cases ha with | cons a2 ha =>
        cases ha
        obtain ⟨hk, rfl⟩ := plK_rel hp a1
        cases a2 with | agg a2 =>
        cases a2 with | cons b0 a2 => cases a2 with | cons b1 a2 =>
        cases a2
        rw [asBv_sound hx b0 rfl, asBv_sound hy b1 rfl]
        refine ctm_of_upd (t := 56) (c' := cB (mixK k (vOf cs) x' y')) (C' := valsB (mixK k (vOf cs) x' y')) (args := [.raw (plV k), .agg [.bv .u64 x', .bv .u64 y']]) (Args0 := [plV k, .agg #[.int .u64 (x'.toNat : Int), .int .u64 (y'.toNat : Int)]]) hl hw (six_vals h6) (vals_cB _) rfl rfl rfl (upd_mix hk (vOf cs) x' y') (.cons a0 (.cons .raw (.cons (.agg (.cons (.bv rfl) (.cons (.bv rfl) .nil))) .nil))) hB hA hO
    · cases hv
  · cases hv
def ctrRmix : CtrF
  | [.agg cs, p, x, y], _ => match plK p, asB64 x, asB64 y with
    | some k, some x, some y => bif six cs then some (.agg (cB (mixK k (vOf cs) x y)), []) else none
    | _, _, _ => none
  | _, _ => none
theorem ctrRmix_ok {R : Rws} : Good Try.prog R 30 ctrRmix := by
  refine ⟨enters_of Try.func30 (by kernel_rfl) rfl, fun args H v cs hv hcs => ?_⟩
  unfold ctrRmix at hv
  split at hv
  · rename_i H0 cs p x y
    split at hv
    · rename_i k x' y' hp hx hy
      cases hb : six cs <;> simp only [hb, cond_true, cond_false] at hv
      · cases hv
      · cases hv
        refine ⟨_, rfl, fun Hr Args ha _ _ w _ => ?_⟩
        cases ha with | cons a0 ha => cases ha with | cons a1 ha => cases ha with | cons a2 ha => cases ha with | cons a3 ha =>
        cases ha
        obtain ⟨hk, rfl⟩ := plK_rel hp a1
        cases a0 with | agg a0 =>
        have e := a0.vals (six_vals hb)
        subst e
        rw [asBv_sound hx a2 rfl, asBv_sound hy a3 rfl]
        exact rmix_any hk (vOf cs) x' y' w
    · cases hv
  · cases hv
end Go.Proofs.Ytjlijocnmicdpaa
