/- Maps that are known whole: what an insertion makes of them, what a look-up finds. No conditions. -/
import Derived.Test.YtjanbpchedgoiaaCom
import Derived.MapKept
namespace Go.Proofs.Ytjanbpchedgoiaa
open Go.RowKit
set_option linter.unusedVariables false

/-- A key and its value put into a map. -/
theorem ins_at {P : Program} {T K E : TypeId} {d : TypeDesc} (hu : P.underlying T = some (.map K E)) (hk : P.underlying K = some d) (w1 : World) (r : Nat) (es : Array MapEntry) (c : Nat) (k v : Value)
    (hw : w1.heap[r]? = some (.map es c)) (hc : ∀ w, (Instr.checkKey false 10000 K k).run P w = .ok () w) (hf : Instr.findNow d k es.toList 0 = some none) :
    (Instr.mapUpdate T (.map (some r)) k v).run P w1 = .ok () { w1 with heap := w1.heap.setIfInBounds r (.map (es.push { key := k, val := v, born := c }) (c + 1)) } := by
  simp [Instr.mapUpdate, run_underlying hu, Sem.run_bind, hc, Instr.findKey, run_underlying hk, hf, getObj, setObj, Sem.run, hw, Result.andThen]

/-- The same of a map in the newest block. -/
theorem ins_new {P : Program} {T K E : TypeId} {d : TypeDesc} (hu : P.underlying T = some (.map K E)) (hk : P.underlying K = some d) (w : World) (es : Array MapEntry) (c : Nat) (k v : Value)
    (hc : ∀ w, (Instr.checkKey false 10000 K k).run P w = .ok () w) (hf : Instr.findNow d k es.toList 0 = some none) :
    (Instr.mapUpdate T (.map (some w.heap.size)) k v).run P (w.alloc (.map es c)) = .ok () (w.alloc (.map (es.push { key := k, val := v, born := c }) (c + 1))) := by
  rw [ins_at hu hk (w.alloc (.map es c)) w.heap.size es c k v (heap_alloc_new w _) hc hf]
  have h : ∀ (a : Array Obj) (o o' : Obj), (a.push o).setIfInBounds a.size o' = a.push o' := by
    intro a o o'
    apply Array.ext'
    simp
  exact congrArg (fun hp => Result.ok () ({ w with heap := hp } : World)) (h w.heap _ _)

/-- What a look-up finds. -/
theorem look_at {P : Program} {T K E : TypeId} {d : TypeDesc} (hu : P.underlying T = some (.map K E)) (hk : P.underlying K = some d) (w : World) (r : Nat) (es : Array MapEntry) (c : Nat) (k : Value) (o : Option (Nat × Value)) (z : Value)
    (hw : w.heap[r]? = some (.map es c)) (hc : ∀ b w, (Instr.checkKey b 10000 K k).run P w = .ok () w) (hf : Instr.findNow d k es.toList 0 = some o) (hz : ∀ w, (zeroValue E).run P w = .ok z w) (ok : Bool) :
    (Instr.lookup T (.map (some r)) k ok).run P w = .ok (bif ok then .tuple #[(o.map (·.2)).getD z, .bool o.isSome] else (o.map (·.2)).getD z) w := by
  cases o with
  | none => cases ok <;> simp [Instr.lookup, run_underlying hu, Sem.run_bind, hc, Instr.findKey, run_underlying hk, hf, getObj, Sem.run, hw, Result.andThen, hz]
  | some p => cases ok <;> simp [Instr.lookup, run_underlying hu, Sem.run_bind, hc, Instr.findKey, run_underlying hk, hf, getObj, Sem.run, hw, Result.andThen]
end Go.Proofs.Ytjanbpchedgoiaa
