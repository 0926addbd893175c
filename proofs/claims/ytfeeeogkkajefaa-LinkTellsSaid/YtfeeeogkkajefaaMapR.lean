/- Maps by strings, whose values stand for things. No conditions. -/
import Derived.Test.YtfeeeogkkajefaaMapS
namespace Go.Proofs.Ytfeeeogkkajefaa
open Go.RowKit
set_option linter.unusedVariables false

/-- A map by strings, in block r: what stands there under each. -/
def MapR {α : Type} (w : World) (r : Nat) (R : Value → α → Prop) (f : ByteArray → Option α) : Prop :=
  ∃ kn, MapS w r kn ∧ ∀ k, (f k = none → kn k = none) ∧ ∀ a, f k = some a → ∃ v, kn k = some v ∧ R v a
section
variable {α : Type} {w w' : World} {r : Nat} {R R' : Value → α → Prop} {f : ByteArray → Option α}
theorem MapR.wr {l : List Nat} (h : MapR w r R f) (hw : Wr l w w') (hr : r ∉ l) (hR : ∀ v a, R v a → R' v a) : MapR w' r R' f := by
  obtain ⟨kn, h1, h2⟩ := h
  refine ⟨kn, h1.wr hw hr, fun k => ⟨(h2 k).1, fun a ha => ?_⟩⟩
  obtain ⟨v, e, hv⟩ := (h2 k).2 a ha
  exact ⟨v, e, hR v a hv⟩
theorem MapR.keep {l : List Nat} (h : MapR w r R f) (hw : Wr l w w') (hr : r ∉ l) : MapR w' r R f := h.wr hw hr (fun _ _ h => h)
theorem MapR.lt (h : MapR w r R f) : r < w.heap.size := by
  obtain ⟨kn, h1, h2⟩ := h
  exact h1.lt
theorem MapR.new (w : World) (R : Value → α → Prop) : MapR (w.alloc (.map #[] 0)) w.heap.size R (fun _ => none) :=
  ⟨fun _ => none, MapS.new w, fun k => ⟨fun _ => rfl, fun a ha => by cases ha⟩⟩
variable {P : Program} {T K E : TypeId} (hu : P.underlying T = some (.map K E)) (hk : P.underlying K = some .string)
include hu hk
theorem MapR.upd (h : MapR w r R f) (k : ByteArray) (v : Value) (a : α) (hv : R v a) :
    ∃ W, (Instr.mapUpdate T (.map (some r)) (.string k) v).run P w = .ok () W ∧ Wr [r] w W ∧ MapR W r R (fun j => if j = k then some a else f j) := by
  obtain ⟨kn, h1, h2⟩ := h
  obtain ⟨W, e, hw, h3⟩ := mapS_upd hu hk h1 k v
  refine ⟨W, e, hw, _, h3, fun j => ?_⟩
  by_cases hj : j = k
  · simp only [if_pos hj]
    refine ⟨(fun x => by cases x), (fun b hb => ?_)⟩
    injection hb with hb
    subst hb
    exact ⟨v, rfl, hv⟩
  · simp only [if_neg hj]
    exact h2 j
theorem MapR.look2 (h : MapR w r R f) (k : ByteArray) {z : Value} (hz : ∀ w, (zeroValue E).run P w = .ok z w) :
    ∃ v, (Instr.lookup T (.map (some r)) (.string k) true).run P w = .ok (.tuple #[v, .bool (f k).isSome]) w ∧ (∀ a, f k = some a → R v a) ∧ (f k = none → v = z) := by
  obtain ⟨kn, h1, h2⟩ := h
  have hl := mapS_look hu hk h1 k hz
  obtain ⟨g1, g2⟩ := h2 k
  cases hf : f k with
  | none =>
    rw [g1 hf] at hl
    exact ⟨z, hl, fun a ha => (by cases ha), fun _ => rfl⟩
  | some a =>
    obtain ⟨v, e, hv⟩ := g2 a hf
    rw [e] at hl
    exact ⟨v, hl, fun b hb => (by injection hb with hb; subst hb; exact hv), fun h => (by cases h)⟩
theorem MapR.look1 (h : MapR w r R f) (k : ByteArray) {z : Value} (hz : ∀ w, (zeroValue E).run P w = .ok z w) :
    ∃ v, (Instr.lookup T (.map (some r)) (.string k) false).run P w = .ok v w ∧ (∀ a, f k = some a → R v a) ∧ (f k = none → v = z) := by
  obtain ⟨kn, h1, h2⟩ := h
  have hl := mapS_look1 hu hk h1 k hz
  obtain ⟨g1, g2⟩ := h2 k
  cases hf : f k with
  | none =>
    rw [g1 hf] at hl
    exact ⟨z, hl, fun a ha => (by cases ha), fun _ => rfl⟩
  | some a =>
    obtain ⟨v, e, hv⟩ := g2 a hf
    rw [e] at hl
    exact ⟨v, hl, fun b hb => (by injection hb with hb; subst hb; exact hv), fun h => (by cases h)⟩
end
end Go.Proofs.Ytfeeeogkkajefaa
