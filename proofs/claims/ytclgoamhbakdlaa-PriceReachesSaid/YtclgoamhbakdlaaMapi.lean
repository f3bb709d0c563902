/- Maps that are known entry by entry, their keys numbers. No program of its own. No condition. -/
import Derived.Test.YtclgoamhbakdlaaReg
import Derived.MapKept
import Derived.Carry
import Derived.RangeFuncOwn
set_option linter.unusedVariables false
set_option linter.unusedSimpArgs false
namespace Go.Proofs.Ytclgoamhbakdlaa
open Go.RowKit

section
variable {P : Program} {W : World} {b clock : Nat} {es : Array MapEntry} {t k e : TypeId} {q : IntKind} {x : Int}
theorem run_insert (ht : P.underlying t = some (.map k e)) (hk : P.underlying k = some (.int q)) (hb : W.heap[b]? = some (.map es clock)) (hf : Instr.findNow (.int q) (.int q x) es.toList 0 = some none) (v : Value) :
    (Instr.mapUpdate t (.map (some b)) (.int q x) v).run P W = .ok () (W.putObj b (.map (es.push { key := .int q x, val := v, born := clock }) (clock + 1))) := by
  have hc : (Instr.checkKey false 10000 k (.int q x)).run P W = .ok () W := MapKept.run_checkKey (k := .int q x) hk (by simp [MapKept.IsKey]) false 9999
  simp [Instr.mapUpdate, run_underlying ht, MapKept.run_getObj_map hb, hc, MapKept.run_findKey hk hf, MapKept.run_setObj_map _ hb, Result.andThen, World.putObj]
theorem run_look (ht : P.underlying t = some (.map k e)) (hk : P.underlying k = some (.int q)) (hb : W.heap[b]? = some (.map es clock)) {i : Nat} {v : Value} (hf : Instr.findNow (.int q) (.int q x) es.toList 0 = some (some (i, v))) :
    (Instr.lookup t (.map (some b)) (.int q x) true).run P W = .ok (.tuple #[v, .bool true]) W := by
  have hc : ∀ z, (Instr.checkKey z 10000 k (.int q x)).run P W = .ok () W := fun z => MapKept.run_checkKey (k := .int q x) hk (by simp [MapKept.IsKey]) z 9999
  simp [Instr.lookup, run_underlying ht, MapKept.run_getObj_map hb, hc, MapKept.run_findKey hk hf, Result.andThen]
theorem run_look_none (ht : P.underlying t = some (.map k e)) (hk : P.underlying k = some (.int q)) (hb : W.heap[b]? = some (.map es clock)) {z : Value} (hz : (zeroValue e).run P W = .ok z W) (hf : Instr.findNow (.int q) (.int q x) es.toList 0 = some none) :
    (Instr.lookup t (.map (some b)) (.int q x) true).run P W = .ok (.tuple #[z, .bool false]) W := by
  have hc : ∀ z, (Instr.checkKey z 10000 k (.int q x)).run P W = .ok () W := fun z => MapKept.run_checkKey (k := .int q x) hk (by simp [MapKept.IsKey]) z 9999
  simp [Instr.lookup, run_underlying ht, MapKept.run_getObj_map hb, hc, MapKept.run_findKey hk hf, Result.andThen, hz]
end
end Go.Proofs.Ytclgoamhbakdlaa
