/- Arguments opened: a slice of integers, as a list. No conditions. -/
import Derived.Test.YtfeeeogkkajefaaCom
import Derived.ProofKit
import Derived.OpenShut
namespace Go.Proofs.Ytfeeeogkkajefaa
open Go.ChangeShapes Go.WideShapes Go.ChangeAt Go.RowKit
set_option linter.unusedVariables false

/-- A slice of integers of kind k that can be read: its elements zs. -/
def IsInts (k : IntKind) (w : World) (v : Value) : Prop :=
  ∃ (a : Option Addr) (len cap : Nat) (zs : List Int), v = .slice a len cap ∧ len ≤ cap ∧ cap ≤ maxLen ∧ zs.length = len ∧ (∀ i, i < len → (Lit.int k (zs.getD i 0)).wf = true) ∧
    ∀ i, i < len → ∃ b off, a = some ⟨b, off, none⟩ ∧ w.cell? ⟨b, off + i, none⟩ = some (.int k (zs.getD i 0))

theorem open_ints_arg {H : Type} {enc : TypeId × Value → H} {P : Program} {W : World} {r : Reach} {b0 : Nat} {t e : TypeId} {k : IntKind} {v : Value} {d : DataW H} {p : List MemPlace}
    (ht : P.underlying t = some (.slice e)) (he : P.underlying e = some (.int k)) (hC : P.cellsOf e = 1)
    (hv : Value.okWide P W r b0 t v) (h : DataW.Trod enc P W 0 (fun _ => true) true t v d p) : IsInts k W v := by
  obtain ⟨a, len, cap, rfl⟩ := okWide_slice ht hv
  obtain ⟨fuel, hf⟩ := h
  rcases open_ints ht he hC hf with ⟨hcs, _⟩ | ⟨x, l, c, zs, hcs, _, hl, hm, hz, _, hcell, hwz⟩
  · simp [Value.cells] at hcs
    obtain ⟨rfl, rfl, rfl⟩ := hcs
    exact ⟨_, _, _, [], rfl, by omega, by simp, rfl, fun i hi => absurd hi (by omega), fun i hi => absurd hi (by omega)⟩
  · simp [Value.cells] at hcs
    obtain ⟨rfl, rfl, rfl⟩ := hcs
    have hzl : zs.length = cap := by simpa using hz
    refine ⟨_, _, _, zs.take len, rfl, hl, hm, by rw [List.length_take]; omega, fun i hi => ?_, fun i hi => ?_⟩
    · have : (zs.take len).getD i 0 = zs[i]'(by omega) := by simp [List.getD, hi, List.getElem?_eq_getElem (show i < zs.length by omega)]
      rw [this]
      exact hwz _ (List.getElem_mem _)
    · have hc := hcell i (by omega)
      obtain ⟨b, off, spot⟩ := x
      have hc0 := hcell 0 (by omega)
      have hspot : spot = none := by simpa [Addr.add] using World.cell?_spot hc0
      subst hspot
      refine ⟨b, off, rfl, ?_⟩
      have : (zs.take len).getD i 0 = zs.getD i 0 := by simp [List.getD, hi]
      rw [this]
      simpa [Addr.add_lit] using hc

end Go.Proofs.Ytfeeeogkkajefaa
